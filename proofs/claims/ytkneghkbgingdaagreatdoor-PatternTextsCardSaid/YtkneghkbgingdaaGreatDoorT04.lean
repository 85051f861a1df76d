/- The contracts of the reference of what counts. -/
import Derived.Test.YtkneghkbgingdaaGreatDoorT03
namespace Go.Proofs.YtkneghkbgingdaaGreatDoor
set_option maxHeartbeats 16000000
set_option maxRecDepth 100000
open Go.RowKit
set_option maxRecDepth 100000 in
theorem za7 (k:Int) (p:Bool) (a b:Int) (w:World) :
  Calls Tryz.prog 109 #[.agg #[.int .u8 k,.bool p,.int .i64 a,.int .i64 b]] w fun e w'=>e = .returned (.int .i64 (okE ⟨k,p,a,b⟩))/\Ext w w':=by
 cases hk:kindB k
 ·have HE:=Za (show okE ⟨k,p,a,b⟩=8 by simp [okE,okSt,hk])
  have ac:=zoX hk
  have k1:(k==1)=false:=by rw [Ze];omega
  have k2:(k==2)=false:=by rw [Ze];omega
  have k3:(k==3)=false:=by rw [Ze];omega
  have k4:(k==4)=false:=by rw [Ze];omega
  have k5:(k==5)=false:=by rw [Ze];omega
  have k6:(k==6)=false:=by rw [Ze];omega
  have k7:(k==7)=false:=by rw [Ze];omega
  have k8:(k==8)=false:=by rw [Ze];omega
  have k9:(k==9)=false:=by rw [Ze];omega
  have k10:(k==10)=false:=by rw [Ze];omega
  clear hk ac
  go_enter Tryz.func109,Tryz.ntmps109
  go_wp2
  all_goals (go_ret;exact ⟨by rw [HE.out];rfl,zx⟩)
 rcases zax hk with e | e | e | e | e | e | e | e | e | e <;> subst e <;> clear hk
 ·by_cases hg:(a=0)/\(b=0)
  ·have HE:=Za (show okE ⟨1,p,a,b⟩=0 by
    have:okSt ⟨1,p,a,b⟩=true:=by simp [okSt,kindB,inR,fa0,fa1,fb0,fb1,fsd];first | omega | (simp_all;done) | (simp_all;omega)
    rw [okE,this];rfl)
   obtain ⟨rfl,rfl⟩:=hg
   go_enter Tryz.func109,Tryz.ntmps109
   go_wp2
   all_goals (go_ret;exact ⟨by first | (rw [HE.out];rfl) | (have h9:=HE.out;subst_vars;rw [h9];rfl),zx⟩)
  ·have HE:=Za (show okE ⟨1,p,a,b⟩=8 by
    have:okSt ⟨1,p,a,b⟩=false:=by
     cases e:okSt ⟨1,p,a,b⟩
     ·rfl
     ·exfalso
      apply hg
      simp [okSt,kindB,inR,fa0,fa1,fb0,fb1,fsd] at e
      first | omega | (simp_all;done) | (simp_all;omega)
    rw [okE,this];rfl)
   have aa:(a≠0)∨(b≠0):=by first | omega | (cases p <;> simp at hg ⊢ <;> omega) | (by_cases hz:b=0 <;> cases p <;> simp [hz] at hg ⊢ <;> omega)
   clear hg
   rcases aa with hb | hb
   ·obtain hb:=hb
    have ab:(a==0)=false:=Ze.2 hb
    clear hb
    go_enter Tryz.func109,Tryz.ntmps109
    go_wp2
    all_goals (go_ret;exact ⟨by first | (rw [HE.out];rfl) | (have h9:=HE.out;subst_vars;rw [h9];rfl),zx⟩)
   ·obtain hb:=hb
    have ab:(b==0)=false:=Ze.2 hb
    clear hb
    go_enter Tryz.func109,Tryz.ntmps109
    go_wp2
    all_goals (go_ret;exact ⟨by first | (rw [HE.out];rfl) | (have h9:=HE.out;subst_vars;rw [h9];rfl),zx⟩)
 ·by_cases hg:(a=0)/\(b=0)/\(p=false)
  ·have HE:=Za (show okE ⟨2,p,a,b⟩=0 by
    have:okSt ⟨2,p,a,b⟩=true:=by simp [okSt,kindB,inR,fa0,fa1,fb0,fb1,fsd];first | omega | (simp_all;done) | (simp_all;omega)
    rw [okE,this];rfl)
   obtain ⟨rfl,rfl,rfl⟩:=hg
   go_enter Tryz.func109,Tryz.ntmps109
   go_wp2
   all_goals (go_ret;exact ⟨by first | (rw [HE.out];rfl) | (have h9:=HE.out;subst_vars;rw [h9];rfl),zx⟩)
  ·have HE:=Za (show okE ⟨2,p,a,b⟩=8 by
    have:okSt ⟨2,p,a,b⟩=false:=by
     cases e:okSt ⟨2,p,a,b⟩
     ·rfl
     ·exfalso
      apply hg
      simp [okSt,kindB,inR,fa0,fa1,fb0,fb1,fsd] at e
      first | omega | (simp_all;done) | (simp_all;omega)
    rw [okE,this];rfl)
   have aa:(a≠0)∨(b≠0)∨(p=true):=by first | omega | (cases p <;> simp at hg ⊢ <;> omega) | (by_cases hz:b=0 <;> cases p <;> simp [hz] at hg ⊢ <;> omega)
   clear hg
   rcases aa with hb | hb | hb
   ·obtain hb:=hb
    have ab:(a==0)=false:=Ze.2 hb
    clear hb
    go_enter Tryz.func109,Tryz.ntmps109
    go_wp2
    all_goals (go_ret;exact ⟨by first | (rw [HE.out];rfl) | (have h9:=HE.out;subst_vars;rw [h9];rfl),zx⟩)
   ·obtain hb:=hb
    have ab:(b==0)=false:=Ze.2 hb
    clear hb
    go_enter Tryz.func109,Tryz.ntmps109
    go_wp2
    all_goals (go_ret;exact ⟨by first | (rw [HE.out];rfl) | (have h9:=HE.out;subst_vars;rw [h9];rfl),zx⟩)
   ·obtain rfl:=hb
    go_enter Tryz.func109,Tryz.ntmps109
    go_wp2
    all_goals (go_ret;exact ⟨by first | (rw [HE.out];rfl) | (have h9:=HE.out;subst_vars;rw [h9];rfl),zx⟩)
 ·by_cases hg:(b=0)/\(2<=a/\a<=4)
  ·have HE:=Za (show okE ⟨3,p,a,b⟩=0 by
    have:okSt ⟨3,p,a,b⟩=true:=by simp [okSt,kindB,inR,fa0,fa1,fb0,fb1,fsd];first | omega | (simp_all;done) | (simp_all;omega)
    rw [okE,this];rfl)
   obtain ⟨rfl,⟨h2,h3⟩⟩:=hg
   go_enter Tryz.func109,Tryz.ntmps109
   go_wp2
   all_goals (go_ret;exact ⟨by first | (rw [HE.out];rfl) | (have h9:=HE.out;subst_vars;rw [h9];rfl),zx⟩)
  ·have HE:=Za (show okE ⟨3,p,a,b⟩=8 by
    have:okSt ⟨3,p,a,b⟩=false:=by
     cases e:okSt ⟨3,p,a,b⟩
     ·rfl
     ·exfalso
      apply hg
      simp [okSt,kindB,inR,fa0,fa1,fb0,fb1,fsd] at e
      first | omega | (simp_all;done) | (simp_all;omega)
    rw [okE,this];rfl)
   have aa:(b≠0)∨(b=0/\a<2)∨(b=0/\4<a):=by first | omega | (cases p <;> simp at hg ⊢ <;> omega) | (by_cases hz:b=0 <;> cases p <;> simp [hz] at hg ⊢ <;> omega)
   clear hg
   rcases aa with hb | hb | hb
   ·obtain hb:=hb
    have ab:(b==0)=false:=Ze.2 hb
    clear hb
    go_enter Tryz.func109,Tryz.ntmps109
    go_wp2
    all_goals (go_ret;exact ⟨by first | (rw [HE.out];rfl) | (have h9:=HE.out;subst_vars;rw [h9];rfl),zx⟩)
   ·obtain ⟨rfl,hb⟩:=hb
    have hd:decide (2<=a)=false:=by simp;omega
    go_enter Tryz.func109,Tryz.ntmps109
    go_wp2
    all_goals (go_ret;exact ⟨by first | (rw [HE.out];rfl) | (have h9:=HE.out;subst_vars;rw [h9];rfl),zx⟩)
   ·obtain ⟨rfl,hb⟩:=hb
    have hd:decide (a<=4)=false:=by simp;omega
    go_enter Tryz.func109,Tryz.ntmps109
    go_wp2
    all_goals (go_ret;exact ⟨by first | (rw [HE.out];rfl) | (have h9:=HE.out;subst_vars;rw [h9];rfl),zx⟩)
 ·by_cases hg:(b=0)/\(2<=a/\a<=4)
  ·have HE:=Za (show okE ⟨4,p,a,b⟩=0 by
    have:okSt ⟨4,p,a,b⟩=true:=by simp [okSt,kindB,inR,fa0,fa1,fb0,fb1,fsd];first | omega | (simp_all;done) | (simp_all;omega)
    rw [okE,this];rfl)
   obtain ⟨rfl,⟨h2,h3⟩⟩:=hg
   go_enter Tryz.func109,Tryz.ntmps109
   go_wp2
   all_goals (go_ret;exact ⟨by first | (rw [HE.out];rfl) | (have h9:=HE.out;subst_vars;rw [h9];rfl),zx⟩)
  ·have HE:=Za (show okE ⟨4,p,a,b⟩=8 by
    have:okSt ⟨4,p,a,b⟩=false:=by
     cases e:okSt ⟨4,p,a,b⟩
     ·rfl
     ·exfalso
      apply hg
      simp [okSt,kindB,inR,fa0,fa1,fb0,fb1,fsd] at e
      first | omega | (simp_all;done) | (simp_all;omega)
    rw [okE,this];rfl)
   have aa:(b≠0)∨(b=0/\a<2)∨(b=0/\4<a):=by first | omega | (cases p <;> simp at hg ⊢ <;> omega) | (by_cases hz:b=0 <;> cases p <;> simp [hz] at hg ⊢ <;> omega)
   clear hg
   rcases aa with hb | hb | hb
   ·obtain hb:=hb
    have ab:(b==0)=false:=Ze.2 hb
    clear hb
    go_enter Tryz.func109,Tryz.ntmps109
    go_wp2
    all_goals (go_ret;exact ⟨by first | (rw [HE.out];rfl) | (have h9:=HE.out;subst_vars;rw [h9];rfl),zx⟩)
   ·obtain ⟨rfl,hb⟩:=hb
    have hd:decide (2<=a)=false:=by simp;omega
    go_enter Tryz.func109,Tryz.ntmps109
    go_wp2
    all_goals (go_ret;exact ⟨by first | (rw [HE.out];rfl) | (have h9:=HE.out;subst_vars;rw [h9];rfl),zx⟩)
   ·obtain ⟨rfl,hb⟩:=hb
    have hd:decide (a<=4)=false:=by simp;omega
    go_enter Tryz.func109,Tryz.ntmps109
    go_wp2
    all_goals (go_ret;exact ⟨by first | (rw [HE.out];rfl) | (have h9:=HE.out;subst_vars;rw [h9];rfl),zx⟩)
 ·by_cases hg:(b=0)/\(2<=a/\a<=4)
  ·have HE:=Za (show okE ⟨5,p,a,b⟩=0 by
    have:okSt ⟨5,p,a,b⟩=true:=by simp [okSt,kindB,inR,fa0,fa1,fb0,fb1,fsd];first | omega | (simp_all;done) | (simp_all;omega)
    rw [okE,this];rfl)
   obtain ⟨rfl,⟨h2,h3⟩⟩:=hg
   go_enter Tryz.func109,Tryz.ntmps109
   go_wp2
   all_goals (go_ret;exact ⟨by first | (rw [HE.out];rfl) | (have h9:=HE.out;subst_vars;rw [h9];rfl),zx⟩)
  ·have HE:=Za (show okE ⟨5,p,a,b⟩=8 by
    have:okSt ⟨5,p,a,b⟩=false:=by
     cases e:okSt ⟨5,p,a,b⟩
     ·rfl
     ·exfalso
      apply hg
      simp [okSt,kindB,inR,fa0,fa1,fb0,fb1,fsd] at e
      first | omega | (simp_all;done) | (simp_all;omega)
    rw [okE,this];rfl)
   have aa:(b≠0)∨(b=0/\a<2)∨(b=0/\4<a):=by first | omega | (cases p <;> simp at hg ⊢ <;> omega) | (by_cases hz:b=0 <;> cases p <;> simp [hz] at hg ⊢ <;> omega)
   clear hg
   rcases aa with hb | hb | hb
   ·obtain hb:=hb
    have ab:(b==0)=false:=Ze.2 hb
    clear hb
    go_enter Tryz.func109,Tryz.ntmps109
    go_wp2
    all_goals (go_ret;exact ⟨by first | (rw [HE.out];rfl) | (have h9:=HE.out;subst_vars;rw [h9];rfl),zx⟩)
   ·obtain ⟨rfl,hb⟩:=hb
    have hd:decide (2<=a)=false:=by simp;omega
    go_enter Tryz.func109,Tryz.ntmps109
    go_wp2
    all_goals (go_ret;exact ⟨by first | (rw [HE.out];rfl) | (have h9:=HE.out;subst_vars;rw [h9];rfl),zx⟩)
   ·obtain ⟨rfl,hb⟩:=hb
    have hd:decide (a<=4)=false:=by simp;omega
    go_enter Tryz.func109,Tryz.ntmps109
    go_wp2
    all_goals (go_ret;exact ⟨by first | (rw [HE.out];rfl) | (have h9:=HE.out;subst_vars;rw [h9];rfl),zx⟩)
 ·by_cases hg:(1<=a/\a<=6)/\(1<=b/\b<=6)
  ·have HE:=Za (show okE ⟨6,p,a,b⟩=0 by
    have:okSt ⟨6,p,a,b⟩=true:=by simp [okSt,kindB,inR,fa0,fa1,fb0,fb1,fsd];first | omega | (simp_all;done) | (simp_all;omega)
    rw [okE,this];rfl)
   obtain ⟨⟨h0,h1⟩,⟨h2,h3⟩⟩:=hg
   go_enter Tryz.func109,Tryz.ntmps109
   go_wp2
   all_goals (go_ret;exact ⟨by first | (rw [HE.out];rfl) | (have h9:=HE.out;subst_vars;rw [h9];rfl),zx⟩)
  ·have HE:=Za (show okE ⟨6,p,a,b⟩=8 by
    have:okSt ⟨6,p,a,b⟩=false:=by
     cases e:okSt ⟨6,p,a,b⟩
     ·rfl
     ·exfalso
      apply hg
      simp [okSt,kindB,inR,fa0,fa1,fb0,fb1,fsd] at e
      first | omega | (simp_all;done) | (simp_all;omega)
    rw [okE,this];rfl)
   have aa:(a<1)∨(6<a)∨(b<1)∨(6<b):=by first | omega | (cases p <;> simp at hg ⊢ <;> omega) | (by_cases hz:b=0 <;> cases p <;> simp [hz] at hg ⊢ <;> omega)
   clear hg
   rcases aa with hb | hb | hb | hb
   ·obtain hb:=hb
    have hd:decide (1<=a)=false:=by simp;omega
    go_enter Tryz.func109,Tryz.ntmps109
    go_wp2
    all_goals (go_ret;exact ⟨by first | (rw [HE.out];rfl) | (have h9:=HE.out;subst_vars;rw [h9];rfl),zx⟩)
   ·obtain hb:=hb
    have hd:decide (a<=6)=false:=by simp;omega
    go_enter Tryz.func109,Tryz.ntmps109
    go_wp2
    all_goals (go_ret;exact ⟨by first | (rw [HE.out];rfl) | (have h9:=HE.out;subst_vars;rw [h9];rfl),zx⟩)
   ·obtain hb:=hb
    have hd:decide (1<=b)=false:=by simp;omega
    go_enter Tryz.func109,Tryz.ntmps109
    go_wp2
    all_goals (go_ret;exact ⟨by first | (rw [HE.out];rfl) | (have h9:=HE.out;subst_vars;rw [h9];rfl),zx⟩)
   ·obtain hb:=hb
    have hd:decide (b<=6)=false:=by simp;omega
    go_enter Tryz.func109,Tryz.ntmps109
    go_wp2
    all_goals (go_ret;exact ⟨by first | (rw [HE.out];rfl) | (have h9:=HE.out;subst_vars;rw [h9];rfl),zx⟩)
 ·by_cases hg:(1<=a/\a<=6)/\(1<=b/\b<=6)
  ·have HE:=Za (show okE ⟨7,p,a,b⟩=0 by
    have:okSt ⟨7,p,a,b⟩=true:=by simp [okSt,kindB,inR,fa0,fa1,fb0,fb1,fsd];first | omega | (simp_all;done) | (simp_all;omega)
    rw [okE,this];rfl)
   obtain ⟨⟨h0,h1⟩,⟨h2,h3⟩⟩:=hg
   go_enter Tryz.func109,Tryz.ntmps109
   go_wp2
   all_goals (go_ret;exact ⟨by first | (rw [HE.out];rfl) | (have h9:=HE.out;subst_vars;rw [h9];rfl),zx⟩)
  ·have HE:=Za (show okE ⟨7,p,a,b⟩=8 by
    have:okSt ⟨7,p,a,b⟩=false:=by
     cases e:okSt ⟨7,p,a,b⟩
     ·rfl
     ·exfalso
      apply hg
      simp [okSt,kindB,inR,fa0,fa1,fb0,fb1,fsd] at e
      first | omega | (simp_all;done) | (simp_all;omega)
    rw [okE,this];rfl)
   have aa:(a<1)∨(6<a)∨(b<1)∨(6<b):=by first | omega | (cases p <;> simp at hg ⊢ <;> omega) | (by_cases hz:b=0 <;> cases p <;> simp [hz] at hg ⊢ <;> omega)
   clear hg
   rcases aa with hb | hb | hb | hb
   ·obtain hb:=hb
    have hd:decide (1<=a)=false:=by simp;omega
    go_enter Tryz.func109,Tryz.ntmps109
    go_wp2
    all_goals (go_ret;exact ⟨by first | (rw [HE.out];rfl) | (have h9:=HE.out;subst_vars;rw [h9];rfl),zx⟩)
   ·obtain hb:=hb
    have hd:decide (a<=6)=false:=by simp;omega
    go_enter Tryz.func109,Tryz.ntmps109
    go_wp2
    all_goals (go_ret;exact ⟨by first | (rw [HE.out];rfl) | (have h9:=HE.out;subst_vars;rw [h9];rfl),zx⟩)
   ·obtain hb:=hb
    have hd:decide (1<=b)=false:=by simp;omega
    go_enter Tryz.func109,Tryz.ntmps109
    go_wp2
    all_goals (go_ret;exact ⟨by first | (rw [HE.out];rfl) | (have h9:=HE.out;subst_vars;rw [h9];rfl),zx⟩)
   ·obtain hb:=hb
    have hd:decide (b<=6)=false:=by simp;omega
    go_enter Tryz.func109,Tryz.ntmps109
    go_wp2
    all_goals (go_ret;exact ⟨by first | (rw [HE.out];rfl) | (have h9:=HE.out;subst_vars;rw [h9];rfl),zx⟩)
 ·by_cases hg:(a=0)/\(b=0)
  ·have HE:=Za (show okE ⟨8,p,a,b⟩=0 by
    have:okSt ⟨8,p,a,b⟩=true:=by simp [okSt,kindB,inR,fa0,fa1,fb0,fb1,fsd];first | omega | (simp_all;done) | (simp_all;omega)
    rw [okE,this];rfl)
   obtain ⟨rfl,rfl⟩:=hg
   go_enter Tryz.func109,Tryz.ntmps109
   go_wp2
   all_goals (go_ret;exact ⟨by first | (rw [HE.out];rfl) | (have h9:=HE.out;subst_vars;rw [h9];rfl),zx⟩)
  ·have HE:=Za (show okE ⟨8,p,a,b⟩=8 by
    have:okSt ⟨8,p,a,b⟩=false:=by
     cases e:okSt ⟨8,p,a,b⟩
     ·rfl
     ·exfalso
      apply hg
      simp [okSt,kindB,inR,fa0,fa1,fb0,fb1,fsd] at e
      first | omega | (simp_all;done) | (simp_all;omega)
    rw [okE,this];rfl)
   have aa:(a≠0)∨(b≠0):=by first | omega | (cases p <;> simp at hg ⊢ <;> omega) | (by_cases hz:b=0 <;> cases p <;> simp [hz] at hg ⊢ <;> omega)
   clear hg
   rcases aa with hb | hb
   ·obtain hb:=hb
    have ab:(a==0)=false:=Ze.2 hb
    clear hb
    go_enter Tryz.func109,Tryz.ntmps109
    go_wp2
    all_goals (go_ret;exact ⟨by first | (rw [HE.out];rfl) | (have h9:=HE.out;subst_vars;rw [h9];rfl),zx⟩)
   ·obtain hb:=hb
    have ab:(b==0)=false:=Ze.2 hb
    clear hb
    go_enter Tryz.func109,Tryz.ntmps109
    go_wp2
    all_goals (go_ret;exact ⟨by first | (rw [HE.out];rfl) | (have h9:=HE.out;subst_vars;rw [h9];rfl),zx⟩)
 ·by_cases hg:(b=0)/\(p=false)/\(1<=a/\a<=200)
  ·have HE:=Za (show okE ⟨9,p,a,b⟩=0 by
    have:okSt ⟨9,p,a,b⟩=true:=by simp [okSt,kindB,inR,fa0,fa1,fb0,fb1,fsd];first | omega | (simp_all;done) | (simp_all;omega)
    rw [okE,this];rfl)
   obtain ⟨rfl,rfl,⟨h4,h5⟩⟩:=hg
   go_enter Tryz.func109,Tryz.ntmps109
   go_wp2
   all_goals (go_ret;exact ⟨by first | (rw [HE.out];rfl) | (have h9:=HE.out;subst_vars;rw [h9];rfl),zx⟩)
  ·have HE:=Za (show okE ⟨9,p,a,b⟩=8 by
    have:okSt ⟨9,p,a,b⟩=false:=by
     cases e:okSt ⟨9,p,a,b⟩
     ·rfl
     ·exfalso
      apply hg
      simp [okSt,kindB,inR,fa0,fa1,fb0,fb1,fsd] at e
      first | omega | (simp_all;done) | (simp_all;omega)
    rw [okE,this];rfl)
   have aa:(b≠0)∨(b=0/\p=true)∨(b=0/\p=false/\a<1)∨(b=0/\p=false/\200<a):=by first | omega | (cases p <;> simp at hg ⊢ <;> omega) | (by_cases hz:b=0 <;> cases p <;> simp [hz] at hg ⊢ <;> omega)
   clear hg
   rcases aa with hb | hb | hb | hb
   ·obtain hb:=hb
    have ab:(b==0)=false:=Ze.2 hb
    clear hb
    go_enter Tryz.func109,Tryz.ntmps109
    go_wp2
    all_goals (go_ret;exact ⟨by first | (rw [HE.out];rfl) | (have h9:=HE.out;subst_vars;rw [h9];rfl),zx⟩)
   ·obtain ⟨rfl,rfl⟩:=hb
    go_enter Tryz.func109,Tryz.ntmps109
    go_wp2
    all_goals (go_ret;exact ⟨by first | (rw [HE.out];rfl) | (have h9:=HE.out;subst_vars;rw [h9];rfl),zx⟩)
   ·obtain ⟨rfl,rfl,hb⟩:=hb
    have hd:decide (1<=a)=false:=by simp;omega
    go_enter Tryz.func109,Tryz.ntmps109
    go_wp2
    all_goals (go_ret;exact ⟨by first | (rw [HE.out];rfl) | (have h9:=HE.out;subst_vars;rw [h9];rfl),zx⟩)
   ·obtain ⟨rfl,rfl,hb⟩:=hb
    have hd:decide (a<=200)=false:=by simp;omega
    go_enter Tryz.func109,Tryz.ntmps109
    go_wp2
    all_goals (go_ret;exact ⟨by first | (rw [HE.out];rfl) | (have h9:=HE.out;subst_vars;rw [h9];rfl),zx⟩)
 ·by_cases hg:(b=0)/\(1<=a/\a<=200)
  ·have HE:=Za (show okE ⟨10,p,a,b⟩=0 by
    have:okSt ⟨10,p,a,b⟩=true:=by simp [okSt,kindB,inR,fa0,fa1,fb0,fb1,fsd];first | omega | (simp_all;done) | (simp_all;omega)
    rw [okE,this];rfl)
   obtain ⟨rfl,⟨h2,h3⟩⟩:=hg
   go_enter Tryz.func109,Tryz.ntmps109
   go_wp2
   all_goals (go_ret;exact ⟨by first | (rw [HE.out];rfl) | (have h9:=HE.out;subst_vars;rw [h9];rfl),zx⟩)
  ·have HE:=Za (show okE ⟨10,p,a,b⟩=8 by
    have:okSt ⟨10,p,a,b⟩=false:=by
     cases e:okSt ⟨10,p,a,b⟩
     ·rfl
     ·exfalso
      apply hg
      simp [okSt,kindB,inR,fa0,fa1,fb0,fb1,fsd] at e
      first | omega | (simp_all;done) | (simp_all;omega)
    rw [okE,this];rfl)
   have aa:(b≠0)∨(b=0/\a<1)∨(b=0/\200<a):=by first | omega | (cases p <;> simp at hg ⊢ <;> omega) | (by_cases hz:b=0 <;> cases p <;> simp [hz] at hg ⊢ <;> omega)
   clear hg
   rcases aa with hb | hb | hb
   ·obtain hb:=hb
    have ab:(b==0)=false:=Ze.2 hb
    clear hb
    go_enter Tryz.func109,Tryz.ntmps109
    go_wp2
    all_goals (go_ret;exact ⟨by first | (rw [HE.out];rfl) | (have h9:=HE.out;subst_vars;rw [h9];rfl),zx⟩)
   ·obtain ⟨rfl,hb⟩:=hb
    have hd:decide (1<=a)=false:=by simp;omega
    go_enter Tryz.func109,Tryz.ntmps109
    go_wp2
    all_goals (go_ret;exact ⟨by first | (rw [HE.out];rfl) | (have h9:=HE.out;subst_vars;rw [h9];rfl),zx⟩)
   ·obtain ⟨rfl,hb⟩:=hb
    have hd:decide (a<=200)=false:=by simp;omega
    go_enter Tryz.func109,Tryz.ntmps109
    go_wp2
    all_goals (go_ret;exact ⟨by first | (rw [HE.out];rfl) | (have h9:=HE.out;subst_vars;rw [h9];rfl),zx⟩)
theorem zk7 (k:Int) (p:Bool) (a b:Int) (hk:kindB k=true) (ha : -1000<=a/\a<=1000) (hb : -1000<=b/\b<=1000) (w:World) :
  Calls Tryz.prog 124 #[.agg #[.int .u8 k,.bool p,.int .i64 a,.int .i64 b]] w fun e w'=>e = .returned (.int .i64 (lpV a b (fus k)))/\Ext w w':=by
 obtain ⟨ha0,ha1⟩:=ha
 obtain ⟨hb0,hb1⟩:=hb
 rcases zax hk with e | e | e | e | e | e | e | e | e | e <;> subst e <;> clear hk
 all_goals
  go_enter Tryz.func124,Tryz.ntmps124
  go_wp2
  go_ret
  exact ⟨by rfl,zx⟩
theorem ziW (k:Int) (p:Bool) (a b:Int) (hk:kindB k=true) (ha : -1000<=a/\a<=1000) (hb : -1000<=b/\b<=1000) (w:World) :
  Calls Tryz.prog 125 #[.agg #[.int .u8 k,.bool p,.int .i64 a,.int .i64 b]] w fun e w'=>e = .returned (.int .i64 (lpV a b (fmd k)))/\Ext w w':=by
 obtain ⟨ha0,ha1⟩:=ha
 obtain ⟨hb0,hb1⟩:=hb
 rcases zax hk with e | e | e | e | e | e | e | e | e | e <;> subst e <;> clear hk
 all_goals
  go_enter Tryz.func125,Tryz.ntmps125
  go_wp2
  go_ret
  exact ⟨by rfl,zx⟩
theorem zbQ (n c:Nat) (A:Option Addr) (l:List St) (w:World) (hl:Vec shSt w A n l) (hn:n<=200) (hb:allB l=true) :
  Calls Tryz.prog 91 #[.slice A n c] w fun e w'=>e = .returned (.tuple #[.int .i64 (usL l),.int .i64 (mkL l)])/\Ext w w':=by
 have HX:=Za hl
 have HB:=Za hb
 have HL:=Za hl.1
 clear hl hb
 go_enter Tryz.func91,Tryz.ntmps91
 go_wp2_with fail
 go_loopw [4,5,6] (fun u m i wr=>∃k:Nat,k<=n/\i = .int .i64 k/\u = .int .i64 (usL (l.take k))/\m = .int .i64 (mkL (l.take k))/\Hid (Ext w wr)) (fun _ _ i _=>n-(intOf i).toNat)
 case atStart=>exact ⟨0,by omega,rfl,by simp [usL],by simp [mkL],Zf _⟩
 case round =>
  obtain ⟨k,hk,rfl,rfl,rfl,aa⟩:=hrel
  have hxr:=aa.out
  by_cases hlt:k<n
  ·obtain ⟨b,off,rfl,ab,hc⟩:=Sts.all HX.out (by omega)
   obtain ⟨g1,g2,g3,g4⟩:=hc k hlt
   have c1:=(Zs (p:=⟨b,off+k*4,none⟩) aa.out ab).trans g1
   have c2:=(Zs (p:=⟨b,off+k*4+1,none⟩) aa.out ab).trans g2
   have c3:=(Zs (p:=⟨b,off+k*4+2,none⟩) aa.out ab).trans g3
   have c4:=(Zs (p:=⟨b,off+k*4+3,none⟩) aa.out ab).trans g4
   have hz:=Zn wr _ c1
   have ac:=zcy HB.out (k:=k) (by rw [HL.out];exact hlt)
   have h1:=Za (ze5 (l:=l) (k:=k) (by rw [HL.out];exact hlt))
   have h2:=Za (zeE (l:=l) (k:=k) (by rw [HL.out];exact hlt))
   obtain ⟨⟨s1,s2⟩,⟨s3,s4⟩⟩:=zeW HB.out k (by rw [HL.out];omega)
   have ad:=Za (zeG ac)
   obtain ⟨⟨t1,t2,t3,t4⟩,⟨t5,t6⟩,⟨t7,t8⟩,⟨t9,t10⟩,⟨t11,t12⟩⟩:=zn1 ac
   clear hc ac g1 g2 g3 g4
   generalize l.getD k st0=s at *
   obtain ⟨sk,sp,sa,sb⟩:=s
   simp only at c1 c2 c3 c4 t1 t2 t3 t4 t5 t6 t7 t8 t9 t10 t11 t12
   unfold usV at t5 t6 h1
   unfold mkV at t7 t8 h2
   simp only at t5 t6 t7 t8 h1 h2
   generalize usL (l.take k)=U at *
   generalize mkL (l.take k)=M at *
   go_wp2_with (first | (go_at_call 124;((with_reducible refine (zk7 sk sp sa sb ad.out (by omega) (by omega) _).mono ?_);rintro e w1 ⟨rfl,hq1⟩;obtain ⟨hf1,hf2,hf3⟩:=hq1.facts)) | (go_at_call 125;((with_reducible refine (ziW sk sp sa sb ad.out (by omega) (by omega) _).mono ?_);rintro e w3 ⟨rfl,hq3⟩)))
   go_roundw
   case rel=>exact ⟨k+1,by omega,by go_num,by rw [h1.out],by rw [h2.out],zx⟩
   case measure=>simp [intOf];omega
  ·obtain rfl:k=n:=by omega
   have e1:l.take k=l:=ZE (by rw [HL.out];omega)
   rw [e1]
   clear e1
   go_wp2
   go_ret2
   exact ⟨rfl,zx⟩
theorem zcp (n c:Nat) (A:Option Addr) (l:List St) (w:World) (hl:Vec shSt w A n l) (hn:n<=maxLen) :
  Calls Tryz.prog 90 #[.slice A n c] w fun e w'=>e = .returned (.int .i64 (allE l))/\Ext w w':=by
 have HX:=Za hl
 have HL:=Za hl.1
 have hn2:(n:Int)<=9223372036854775807:=by unfold maxLen at hn;omega
 clear hl hn
 by_cases h1:200<n
 ·have HE:=Za (zfg (l:=l) (by rw [HL.out];exact h1))
  go_enter Tryz.func90,Tryz.ntmps90
  go_wp2
  go_ret
  exact ⟨by rw [HE.out];rfl,zx⟩
 go_enter Tryz.func90,Tryz.ntmps90
 go_wp2_with fail
 go_loopw [3] (fun i wr=>∃k:Nat,k<=n/\i = .int .i64 k/\Hid (∀j,j<k->okSt (l.getD j st0)=true)/\Hid (Ext w wr)) (fun i _=>n-(intOf i).toNat)
 case atStart=>exact ⟨0,by omega,rfl,fun j hj=>absurd hj (by omega),Zf _⟩
 case round =>
  obtain ⟨k,hk,rfl,aa,ab⟩:=hrel
  have ad:=ab.out
  by_cases hlt:k<n
  ·obtain ⟨b,off,rfl,hb1,hc⟩:=Sts.all (Vec.ext HX.out ab.out) (by omega)
   obtain ⟨c1,c2,c3,c4⟩:=hc k hlt
   clear hc
   cases hr:okSt (l.getD k st0)
   ·have HA:=Za (zhg (l:=l) (by rw [HL.out];exact h1) (zc2 HL.out hlt hr))
    generalize l.getD k st0=s at *
    obtain ⟨sk,sp,sa,sb⟩:=s
    simp only at c1 c2 c3 c4
    have HR:=Za (show okE ⟨sk,sp,sa,sb⟩=8 by rw [okE,hr];rfl)
    clear hr aa
    go_wp2_with (go_at_call 109;((with_reducible refine (za7 sk sp sa sb _).mono ?_);rintro e w1 ⟨rfl,hq1⟩;rw [HR.out]))
    go_ret
    exact ⟨by rw [HA.out];rfl,zx⟩
   ·have HA:=Za (show ∀j,j<k+1->okSt (l.getD j st0)=true from fun j hj=>by
      by_cases e:j=k
      ·subst e;exact hr
      ·exact aa.out j (by omega))
    generalize l.getD k st0=s at *
    obtain ⟨sk,sp,sa,sb⟩:=s
    simp only at c1 c2 c3 c4
    have HR:=Za (show okE ⟨sk,sp,sa,sb⟩=0 by rw [okE,hr];rfl)
    clear hr aa
    go_wp2_with (go_at_call 109;((with_reducible refine (za7 sk sp sa sb _).mono ?_);rintro e w1 ⟨rfl,hq1⟩;rw [HR.out]))
    go_roundw
    case rel=>exact ⟨k+1,by omega,by go_num,HA,zx⟩
    case measure=>simp [intOf];omega
  ·obtain rfl:k=n:=by omega
   have h2:=zem HL.out aa.out
   have HB:=Za h2
   have ac:=zeW h2 l.length (Zg _)
   rw [ZE (Zg _)] at ac
   rw [HL.out] at ac
   obtain ⟨⟨s1,s2⟩,⟨s3,s4⟩⟩:=ac
   by_cases h3:200<usL l
   ·have HE:=Za (zdk (l:=l) (by rw [HL.out];exact h1) h2 (by omega))
    clear h2
    go_wp2_with (go_at_call 91;((with_reducible refine (zbQ k c A l _ (Vec.ext HX.out ad) (by omega) HB.out).mono ?_);rintro e w2 ⟨rfl,hq2⟩))
    go_ret
    exact ⟨by rw [HE.out];rfl,zx⟩
   by_cases h4:200<mkL l
   ·have HE:=Za (zdk (l:=l) (by rw [HL.out];exact h1) h2 (by omega))
    clear h2
    go_wp2_with (go_at_call 91;((with_reducible refine (zbQ k c A l _ (Vec.ext HX.out ad) (by omega) HB.out).mono ?_);rintro e w2 ⟨rfl,hq2⟩))
    go_ret
    exact ⟨by rw [HE.out];rfl,zx⟩
   ·have HE:=Za (zjr (l:=l) (by rw [HL.out];exact h1) h2 (by omega))
    clear h2
    go_wp2_with (go_at_call 91;((with_reducible refine (zbQ k c A l _ (Vec.ext HX.out ad) (by omega) HB.out).mono ?_);rintro e w2 ⟨rfl,hq2⟩))
    go_ret
    exact ⟨by rw [HE.out];rfl,zx⟩
theorem zZ7 {p:Prop} (h:p:=by
 go_wp2_with (first | (go_at_call 90;((with_reducible refine (zcp n c A l _ HX.out hn).mono ?_);rintro e w1 ⟨rfl,hq1⟩)) | (go_at_call 90;((with_reducible refine (zcp n c A l _ (Vec.ext HX.out hq1) hn).mono ?_);rintro e w2 ⟨rfl,hq2⟩)))
 go_ret2
 exact ⟨by rw [HV.out];rfl,zx⟩):p:=h
theorem zdK (n c:Nat) (A:Option Addr) (l:List St) (w:World) (hl:Vec shSt w A n l) (hn:n<=maxLen) :
  Calls Tryz.prog 62 #[.slice A n c] w fun e w'=>e = .returned (.tuple #[.int .i64 (usG l),.int .i64 (allE l)])/\Ext w w':=by
 have HX:=Za hl
 by_cases h:allE l=0
 ·have HV:=Za (show usG l=usL l by rw [usG,if_pos h])
  have HE:=Za h
  obtain ⟨h1,h2,_,_⟩:=za8 h
  rw [hl.1] at h1
  have HB:=Za h2
  clear h h2 hl
  go_enter Tryz.func62,Tryz.ntmps62
  go_wp2_with (first | (go_at_call 90;((with_reducible refine (zcp n c A l _ HX.out hn).mono ?_);rintro e w1 ⟨rfl,hq1⟩;rw [HE.out])) | (go_at_call 91;((with_reducible refine (zbQ n c A l _ (Vec.ext HX.out hq1) (by omega) HB.out).mono ?_);rintro e w2 ⟨rfl,hq2⟩)))
  go_ret2
  exact ⟨by rw [HV.out,HE.out];rfl,zx⟩
 ·have HV:=Za (show usG l=0 by rw [usG,if_neg h])
  have hb:(allE l != 0)=true:=by simpa using h
  clear h hl
  go_enter Tryz.func62,Tryz.ntmps62
  exact zZ7
theorem ziX (n c:Nat) (A:Option Addr) (l:List St) (w:World) (hl:Vec shSt w A n l) (hn:n<=maxLen) :
  Calls Tryz.prog 63 #[.slice A n c] w fun e w'=>e = .returned (.tuple #[.int .i64 (mkG l),.int .i64 (allE l)])/\Ext w w':=by
 have HX:=Za hl
 by_cases h:allE l=0
 ·have HV:=Za (show mkG l=mkL l by rw [mkG,if_pos h])
  have HE:=Za h
  obtain ⟨h1,h2,_,_⟩:=za8 h
  rw [hl.1] at h1
  have HB:=Za h2
  clear h h2 hl
  go_enter Tryz.func63,Tryz.ntmps63
  go_wp2_with (first | (go_at_call 90;((with_reducible refine (zcp n c A l _ HX.out hn).mono ?_);rintro e w1 ⟨rfl,hq1⟩;rw [HE.out])) | (go_at_call 91;((with_reducible refine (zbQ n c A l _ (Vec.ext HX.out hq1) (by omega) HB.out).mono ?_);rintro e w2 ⟨rfl,hq2⟩)))
  go_ret2
  exact ⟨by rw [HV.out,HE.out];rfl,zx⟩
 ·have HV:=Za (show mkG l=0 by rw [mkG,if_neg h])
  have hb:(allE l != 0)=true:=by simpa using h
  clear h hl
  go_enter Tryz.func63,Tryz.ntmps63
  exact zZ7
end Go.Proofs.YtkneghkbgingdaaGreatDoor
