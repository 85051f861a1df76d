/- Lists of terms in memory. -/
import Derived.Test.YtkneghkbgingdaaGreatDoorT02
import Derived.Deep.QuietTactic
import Derived.BigQuiet
import Derived.Laws.Small
import Derived.Deep.DeepCutAuto
set_option maxHeartbeats 16000000
namespace Go.Proofs.YtkneghkbgingdaaGreatDoor
set_option maxRecDepth 100000
open Go.RowKit Go.ChangeShapes Go.WideShapes Go.Joins
def TAt (w:World):Tms->Nat->Nat->Prop
 | .nil,_,_=>True
 | .cons N c g r,b,off=>∃(A:Option Addr) (n cap:Nat),w.cell? ⟨b,off,none⟩=some (.int .i64 N)/\w.cell? ⟨b,off+1,none⟩=some (.int .u8 c.k)/\w.cell? ⟨b,off+2,none⟩=some (.bool c.p) /\
   w.cell? ⟨b,off+3,none⟩=some (.int .i64 c.a)/\w.cell? ⟨b,off+4,none⟩=some (.int .i64 c.b)/\w.cell? ⟨b,off+5,none⟩=some (.slice A n cap)/\(0<=c.k/\c.k<=255) /\
   g.cnt=n/\n<=maxLen/\(0<n->∃b' off',A=some ⟨b',off',none⟩/\b'<w.heap.size/\TAt w g b' off')/\TAt w r b (off+6)
def Tv (w:World) (A:Option Addr) (n:Nat) (t:Tms):Prop:=t.cnt=n/\n<=maxLen/\(0<n->∃b off,A=some ⟨b,off,none⟩/\b<w.heap.size/\TAt w t b off)
theorem TAt.ext {w w':World} (hb:Ext w w'):∀ {t:Tms} {b off:Nat},b<w.heap.size->TAt w t b off->TAt w' t b off:=by
 intro t
 induction t with
 | nil=>intro b off _ _;trivial
 | cons N c g r ih1 ih2 =>
  intro b off hlt ⟨A,n,cap,h0,h1,h2,h3,h4,h5,hk,hn,hm,hg,hr⟩
  have hc:∀o,w'.cell? ⟨b,o,none⟩=w.cell? ⟨b,o,none⟩:=fun o=>Zs (p:=⟨b,o,none⟩) hb hlt
  refine ⟨A,n,cap,(hc _).trans h0,(hc _).trans h1,(hc _).trans h2,(hc _).trans h3,(hc _).trans h4,(hc _).trans h5,hk,hn,hm,fun h=>?_,ih2 hlt hr⟩
  obtain ⟨b',off',e,aa,ab⟩:=hg h
  exact ⟨b',off',e,Zo aa (Zl hb),ih1 aa ab⟩
theorem Tv.ext {w w':World} {A:Option Addr} {n:Nat} {t:Tms} (h:Tv w A n t) (hb:Ext w w'):Tv w' A n t :=
 ⟨h.1,h.2.1,fun hn=>by
  obtain ⟨b,off,e,hlt,hc⟩:=h.2.2 hn
  exact ⟨b,off,e,Zo hlt (Zl hb),TAt.ext hb hlt hc⟩⟩
theorem Tv.none_ (w:World) (A:Option Addr):Tv w A 0 .nil:=⟨rfl,by unfold maxLen;omega,fun h=>absurd h (by omega)⟩
theorem zas {t:Tms} (h:t.cnt=0):t = .nil:=by
 cases t with
 | nil=>rfl
 | cons=>simp [Tms.cnt] at h
theorem TAt.head {w:World} {N:Int} {c:St} {g r:Tms} {b off:Nat} (h:TAt w (.cons N c g r) b off) :
  ∃(A:Option Addr) (n cap:Nat),w.cell? ⟨b,off,none⟩=some (.int .i64 N)/\w.cell? ⟨b,off+1,none⟩=some (.int .u8 c.k)/\w.cell? ⟨b,off+2,none⟩=some (.bool c.p) /\
   w.cell? ⟨b,off+3,none⟩=some (.int .i64 c.a)/\w.cell? ⟨b,off+4,none⟩=some (.int .i64 c.b)/\w.cell? ⟨b,off+5,none⟩=some (.slice A n cap)/\(0<=c.k/\c.k<=255)/\Tv w A n g/\TAt w r b (off+6):=by
 obtain ⟨A,n,cap,h0,h1,h2,h3,h4,h5,hk,hn,hm,hg,hr⟩:=h
 exact ⟨A,n,cap,h0,h1,h2,h3,h4,h5,hk,⟨hn,hm,hg⟩,hr⟩
section
variable {H:Type} {enc:TypeId×Value->H} {w:World} {base:Nat} {spare:Nat->Bool} {held:Bool}
end
end Go.Proofs.YtkneghkbgingdaaGreatDoor
/- The walks of the checks of terms: size. -/
namespace Go.Proofs.YtkneghkbgingdaaGreatDoor
set_option maxRecDepth 100000
open Go.RowKit Go.ChangeShapes Go.WideShapes Go.Joins
theorem zaO {t:Tms} (h:0<t.cnt):∃N c g r,t = .cons N c g r:=by
 cases t with
 | nil=>simp [Tms.cnt] at h
 | cons N c g r=>exact ⟨N,c,g,r,rfl⟩
theorem zap:∀t:Tms,t.cnt<=t.size:=by
 intro t
 induction t with
 | nil=>simp [Tms.cnt]
 | cons N c g r h1 h2=>simp [Tms.cnt,Tms.size];omega
theorem zet:∀t:Tms,t.depth<=t.size:=by
 intro t
 induction t with
 | nil=>simp [Tms.depth,Tms.size]
 | cons N c g r h1 h2=>simp [Tms.depth,Tms.size];omega
theorem zf0 {P:Program} {w:World} (ts:Array TypeId) (t:TypeId) (x y:Int):(Builtin.max_ ts t #[.int .i64 x,.int .i64 y]).run P w = .ok (.int .i64 (max x y)) w:=by
 rw [run_max_int2]
 congr 2
 split <;> omega
theorem zaP {P:Program} {w:World} (ts:Array TypeId) (t:TypeId) (x y:Int):(Builtin.min_ ts t #[.int .i64 x,.int .i64 y]).run P w = .ok (.int .i64 (min x y)) w:=by
 rw [run_min_int2]
 congr 2
 split <;> omega
theorem zcs:∀(M:Nat),M<=5000->∀(t:Tms),t.size<=M->∀(A:Option Addr) (n cap:Nat) (w:World),Tv w A n t ->
  Calls Tryz.prog 132 #[.slice A n cap] w fun e w'=>e = .returned (.tuple #[.int .i64 (szM t),.int .i64 t.depth])/\Ext w w':=by
 intro M
 induction M using Nat.strongRecOn with
 | ind M ih =>
  intro hM t ht A n cap w hv
  have HI:=Za ih
  have HV:=Za hv
  have hnm:n<=5000:=by have h1:=hv.1;have h2:=zap t;omega
  clear ih hv
  go_enter Tryz.func132,Tryz.ntmps132
  go_wp2_with fail
  go_loopw [2,3,10] (fun u d i wr=>∃(k:Nat) (U:Int) (D:Nat) (rest:Tms),i = .int .i64 k/\u = .int .i64 U/\d = .int .i64 D/\rest.cnt+k=n/\rest.size<=M/\(0<=U/\U<=201)/\D<=5000 /\
   Hid (min (U+rest.size) 201=szM t/\max D rest.depth=t.depth/\Ext w wr/\(0<rest.cnt->∃b off,A=some ⟨b,off,none⟩/\b<wr.heap.size/\TAt wr rest b (off+k*6)))) (fun _ _ i _=>n-(intOf i).toNat)
  case atStart =>
   refine ⟨0,0,0,t,rfl,rfl,rfl,by have:=HV.out.1;omega,ht,by omega,by omega,Za ⟨by simp [szM],by simp,Zf _,fun h=>?_⟩⟩
   obtain ⟨h1,h2,h3⟩:=HV.out
   obtain ⟨b,off,e,hb,hc⟩:=h3 (by omega)
   exact ⟨b,off,e,hb,by simpa using hc⟩
  case round =>
   obtain ⟨k,U,D,rest,rfl,rfl,rfl,hcnt,ag,⟨hU0,hU1⟩,hD,HH⟩:=hrel
   by_cases hlt:0<rest.cnt
   ·obtain ⟨N,c,g,r,rfl⟩:=zaO hlt
    obtain ⟨b,off,rfl,ac,hc⟩:=HH.out.2.2.2 hlt
    obtain ⟨A',n',cap',c0,c1,c2,c3,c4,c5,hkk,hg,hr⟩:=hc.head
    have hxr:=HH.out.2.2.1
    simp only [Tms.cnt,Tms.size] at hcnt ag
    have hkn:k<n:=by omega
    have hz:=Zn wr _ c0
    have aa:=fun (w':World) (h:Ext wr w')=>HI.out (M-1) (by omega) (by omega) g (by omega) A' n' cap' w' (hg.ext h)
    have HC:=Za aa
    clear aa hc
    have ae:0<=szM g/\szM g<=201:=by unfold szM;omega
    have hgs:min (g.size:Int) 201=szM g:=rfl
    have hgd:=zet g
    have ah:(Tms.cons N c g r).size=1+g.size+r.size:=rfl
    have ad:(Tms.cons N c g r).depth=max (g.depth+1) r.depth:=rfl
    have m1:∀(ts:Array TypeId) (t:TypeId) (w:World),(Builtin.min_ ts t #[.int .i64 (U+1+szM g),.int .i64 201]).run Tryz.prog w = .ok (.int .i64 (min (U+1+szM g) 201)) w:=fun ts t w=>zaP ts t _ _
    have m2:∀(ts:Array TypeId) (t:TypeId) (w:World),(Builtin.max_ ts t #[.int .i64 D,.int .i64 ((g.depth:Int)+1)]).run Tryz.prog w = .ok (.int .i64 (max (D:Int) ((g.depth:Int)+1))) w:=fun ts t w=>zf0 ts t _ _
    go_wp2_with (go_at_call 132;((with_reducible refine (HC.out _ zx).mono ?_);rintro e w1 ⟨rfl,hq1⟩))
    go_roundw
    case rel =>
     have ab:Ext wr w1:=zx
     obtain ⟨e1,e2,e3, -⟩:=HH.out
     rw [ah] at e1
     rw [ad] at e2
     have q1:min (min (U+1+szM g) 201+(r.size:Int)) 201=szM t:=by rw [<-e1,<-(show min (g.size:Int) 201=szM g from rfl)];omega
     have q2:max (max D (g.depth+1)) r.depth=t.depth:=by rw [<-e2];omega
     have q3:g.depth<=g.size:=zet g
     have q4:0<=szM g:=ae.1
     refine ⟨k+1,min (U+1+szM g) 201,max D (g.depth+1),r,by go_num,rfl,?_,by omega,by omega,by omega,by omega,Za ⟨q1,q2,e3.trans ab,fun h=>?_⟩⟩
     ·rw [show ((max D (g.depth+1):Nat):Int)=max (D:Int) ((g.depth:Int)+1) by omega]
     ·refine ⟨b,off,rfl,Zo ac (Zl ab),?_⟩
      rw [show off+(k+1)*6=off+k*6+6 by omega]
      exact hr.ext ab ac
    case measure=>simp [intOf];omega
   ·have af:rest.cnt=0:=by omega
    obtain rfl:=zas af
    simp only [Tms.cnt] at hcnt
    obtain ⟨e1,e2,e3, -⟩:=HH.out
    simp only [Tms.size,Tms.depth] at e1 e2
    obtain rfl:k=n:=by omega
    go_wp2
    go_ret2
    have q1:szM t=U:=by rw [<-e1];omega
    have q2:t.depth=D:=by rw [<-e2];omega
    rw [q1,q2]
    exact ⟨rfl,zx⟩
end Go.Proofs.YtkneghkbgingdaaGreatDoor
/- The walks of the reference's Deep. -/
namespace Go.Proofs.YtkneghkbgingdaaGreatDoor
set_option maxRecDepth 100000
open Go.RowKit Go.ChangeShapes Go.WideShapes Go.Joins
theorem zc4:∀(M:Nat),M<=5000->∀(t:Tms),t.size<=M->∀(A:Option Addr) (n cap:Nat) (w:World),Tv w A n t ->
  Calls Tryz.prog 105 #[.slice A n cap] w fun e w'=>e = .returned (.int .i64 t.depth)/\Ext w w':=by
 intro M
 induction M using Nat.strongRecOn with
 | ind M ih =>
  intro hM t ht A n cap w hv
  have HI:=Za ih
  have HV:=Za hv
  have hnm:n<=5000:=by have h1:=hv.1;have h2:=zap t;omega
  clear ih hv
  go_enter Tryz.func105,Tryz.ntmps105
  go_wp2_with fail
  go_loopw [3,4] (fun d i wr=>∃(k:Nat) (D:Nat) (rest:Tms),i = .int .i64 k/\d = .int .i64 D/\rest.cnt+k=n/\rest.size<=M/\D<=5000 /\
   Hid (max D rest.depth=t.depth/\Ext w wr/\(0<rest.cnt->∃b off,A=some ⟨b,off,none⟩/\b<wr.heap.size/\TAt wr rest b (off+k*6)))) (fun _ i _=>n-(intOf i).toNat)
  case atStart =>
   refine ⟨0,0,t,rfl,rfl,by have:=HV.out.1;omega,ht,by omega,Za ⟨by simp,Zf _,fun h=>?_⟩⟩
   obtain ⟨h1,h2,h3⟩:=HV.out
   obtain ⟨b,off,e,hb,hc⟩:=h3 (by omega)
   exact ⟨b,off,e,hb,by simpa using hc⟩
  case round =>
   obtain ⟨k,D,rest,rfl,rfl,hcnt,af,hD,HH⟩:=hrel
   by_cases hlt:0<rest.cnt
   ·obtain ⟨N,c,g,r,rfl⟩:=zaO hlt
    obtain ⟨b,off,rfl,ac,hc⟩:=HH.out.2.2 hlt
    obtain ⟨A',n',cap',c0,c1,c2,c3,c4,c5,hkk,hg,hr⟩:=hc.head
    have hxr:=HH.out.2.1
    simp only [Tms.cnt,Tms.size] at hcnt af
    have hkn:k<n:=by omega
    have hz:=Zn wr _ c0
    have aa:=fun (w':World) (h:Ext wr w')=>HI.out (M-1) (by omega) (by omega) g (by omega) A' n' cap' w' (hg.ext h)
    have HC:=Za aa
    clear aa hc
    have hgd:=zet g
    have ad:(Tms.cons N c g r).depth=max (g.depth+1) r.depth:=rfl
    have m2:∀(ts:Array TypeId) (t:TypeId) (w:World),(Builtin.max_ ts t #[.int .i64 D,.int .i64 (1+(g.depth:Int))]).run Tryz.prog w = .ok (.int .i64 (max (D:Int) (1+(g.depth:Int)))) w:=fun ts t w=>zf0 ts t _ _
    go_wp2_with (go_at_call 105;((with_reducible refine (HC.out _ zx).mono ?_);rintro e w1 ⟨rfl,hq1⟩))
    go_roundw
    case rel =>
     have ab:Ext wr w1:=zx
     obtain ⟨e2,e3, -⟩:=HH.out
     rw [ad] at e2
     have q2:max (max D (g.depth+1)) r.depth=t.depth:=by rw [<-e2];omega
     refine ⟨k+1,max D (g.depth+1),r,by go_num,?_,by omega,by omega,by omega,Za ⟨q2,e3.trans ab,fun h=>?_⟩⟩
     ·rw [show ((max D (g.depth+1):Nat):Int)=max (D:Int) (1+(g.depth:Int)) by omega]
     ·refine ⟨b,off,rfl,Zo ac (Zl ab),?_⟩
      rw [show off+(k+1)*6=off+k*6+6 by omega]
      exact hr.ext ab ac
    case measure=>simp [intOf];omega
   ·have ae:rest.cnt=0:=by omega
    obtain rfl:=zas ae
    simp only [Tms.cnt] at hcnt
    obtain ⟨e2,e3, -⟩:=HH.out
    simp only [Tms.depth] at e2
    obtain rfl:k=n:=by omega
    go_wp2
    go_ret
    have q2:t.depth=D:=by rw [<-e2];omega
    rw [q2]
    exact ⟨rfl,zx⟩
end Go.Proofs.YtkneghkbgingdaaGreatDoor
/- The walk of the reference's Terms. -/
namespace Go.Proofs.YtkneghkbgingdaaGreatDoor
set_option maxRecDepth 100000
open Go.RowKit Go.ChangeShapes Go.WideShapes Go.Joins
theorem zbV:∀(M:Nat),M<=5000->∀(t:Tms),t.size<=M->∀(A:Option Addr) (n cap:Nat) (w:World),Tv w A n t ->
  Calls Tryz.prog 104 #[.slice A n cap] w fun e w'=>e = .returned (.int .i64 (szM t))/\Ext w w':=by
 intro M
 induction M using Nat.strongRecOn with
 | ind M ih =>
  intro hM t ht A n cap w hv
  have HI:=Za ih
  have HV:=Za hv
  have hnm:n<=5000:=by have h1:=hv.1;have h2:=zap t;omega
  clear ih hv
  go_enter Tryz.func104,Tryz.ntmps104
  go_wp2_with fail
  go_loopw [3,4] (fun u i wr=>∃(k:Nat) (U:Int) (rest:Tms),i = .int .i64 k/\u = .int .i64 U/\rest.cnt+k=n/\rest.size<=M/\(0<=U/\U<=500) /\
   Hid (min (U+rest.size) 201=szM t/\Ext w wr/\(0<rest.cnt->∃b off,A=some ⟨b,off,none⟩/\b<wr.heap.size/\TAt wr rest b (off+k*6)))) (fun _ i _=>n-(intOf i).toNat)
  case atStart =>
   refine ⟨0,0,t,rfl,rfl,by have:=HV.out.1;omega,ht,by omega,Za ⟨by simp [szM],Zf _,fun h=>?_⟩⟩
   obtain ⟨h1,h2,h3⟩:=HV.out
   obtain ⟨b,off,e,hb,hc⟩:=h3 (by omega)
   exact ⟨b,off,e,hb,by simpa using hc⟩
  case round =>
   obtain ⟨k,U,rest,rfl,rfl,hcnt,ae,⟨hU0,hU1⟩,HH⟩:=hrel
   by_cases hlt:0<rest.cnt
   ·obtain ⟨N,c,g,r,rfl⟩:=zaO hlt
    obtain ⟨b,off,rfl,ac,hc⟩:=HH.out.2.2 hlt
    obtain ⟨A',n',cap',c0,c1,c2,c3,c4,c5,hkk,hg,hr⟩:=hc.head
    have hxr:=HH.out.2.1
    simp only [Tms.cnt,Tms.size] at hcnt ae
    have hkn:k<n:=by omega
    have hz:=Zn wr _ c0
    have aa:=fun (w':World) (h:Ext wr w')=>HI.out (M-1) (by omega) (by omega) g (by omega) A' n' cap' w' (hg.ext h)
    have HC:=Za aa
    clear aa hc
    have hg0:0<=szM g/\szM g<=201:=by unfold szM;omega
    have af:(Tms.cons N c g r).size=1+g.size+r.size:=rfl
    have m1:∀(ts:Array TypeId) (t:TypeId) (w:World),(Builtin.min_ ts t #[.int .i64 U,.int .i64 201]).run Tryz.prog w = .ok (.int .i64 (min U 201)) w:=fun ts t w=>zaP ts t _ _
    by_cases hU:U<=200
    ·go_wp2_with (go_at_call 104;((with_reducible refine (HC.out _ zx).mono ?_);rintro e w1 ⟨rfl,hq1⟩))
     go_roundw
     case rel =>
      have ab:Ext wr w1:=zx
      obtain ⟨e2,e3, -⟩:=HH.out
      rw [af] at e2
      have q2:min (U+1+szM g+(r.size:Int)) 201=szM t:=by rw [<-e2,<-(show min (g.size:Int) 201=szM g from rfl)];omega
      refine ⟨k+1,U+1+szM g,r,by go_num,by go_num,by omega,by omega,by omega,Za ⟨q2,e3.trans ab,fun h=>?_⟩⟩
      refine ⟨b,off,rfl,Zo ac (Zl ab),?_⟩
      rw [show off+(k+1)*6=off+k*6+6 by omega]
      exact hr.ext ab ac
     case measure=>simp [intOf];omega
    ·have hU':¬U<=200:=hU
     obtain ⟨e2,e3, -⟩:=HH.out
     have q2:szM t=min U 201:=by rw [<-e2];omega
     go_wp2_with fail
     go_ret
     exact ⟨rfl,zx⟩
   ·have ad:rest.cnt=0:=by omega
    obtain rfl:=zas ad
    simp only [Tms.cnt] at hcnt
    obtain ⟨e2,e3, -⟩:=HH.out
    simp only [Tms.size] at e2
    have m1:∀(ts:Array TypeId) (t:TypeId) (w:World),(Builtin.min_ ts t #[.int .i64 U,.int .i64 201]).run Tryz.prog w = .ok (.int .i64 (min U 201)) w:=fun ts t w=>zaP ts t _ _
    obtain rfl:k=n:=by omega
    have q2:szM t=min U 201:=by rw [<-e2];omega
    by_cases hU:U<=200
    all_goals
     go_wp2_with fail
     go_ret
     first | exact ⟨rfl,zx⟩ | (rw [q2];exact ⟨rfl,zx⟩) | (refine ⟨by rw [q2];rfl,zx⟩) | trace_state
end Go.Proofs.YtkneghkbgingdaaGreatDoor
/- The walks of length and long. -/
namespace Go.Proofs.YtkneghkbgingdaaGreatDoor
set_option maxRecDepth 100000
open Go.RowKit Go.ChangeShapes Go.WideShapes Go.Joins
theorem znj {x a b:Int} (h:inR x a b=true):a<=x/\x<=b:=by simpa [inR] using h
theorem za9 {N:Int} {c:St} {g r:Tms} (h:fineT (.cons N c g r)=true):(1<=N/\N<=200)/\fineT g=true/\fineT r=true:=by
 by_cases hg:g = .nil
 ·subst hg
  rw [zaD] at h
  simp only [Zt] at h
  exact ⟨znj h.1.1,rfl,h.2⟩
 ·rw [zaJ _ _ _ _ hg] at h
  simp only [Zt] at h
  exact ⟨znj h.1.1.1,h.1.2,h.2⟩
theorem znl:∀ {t:Tms},fineT t=true->∀ {m:Int},0<=m->m<=201->0<=lenT t m/\lenT t m<=201:=by
 intro t
 induction t with
 | nil=>intro _ m h0 h1;exact ⟨h0,h1⟩
 | cons N c g r ih1 ih2 =>
  intro h m h0 h1
  obtain ⟨hN,hg,hr⟩:=za9 h
  by_cases e:g = .nil
  ·subst e
   rw [zeD]
   exact ih2 hr (by omega) (by omega)
  ·rw [zeC _ _ _ _ _ e]
   obtain ⟨a,b⟩:=ih1 hg (m:=0) (by omega) (by omega)
   have:=Int.mul_nonneg a (show (0:Int)<=N by omega)
   exact ih2 hr (by omega) (by omega)
theorem zpH {p:Prop} (h:p:=by
 simp only [Tms.cnt] at hcnt
 obtain ⟨_,e2,e3, -⟩:=HH.out
 obtain rfl:k=n:=by omega
 have q2:lenT t 0=U:=e2.symm
 go_wp2
 go_ret
 first | exact ⟨rfl,zx⟩ | (rw [q2];exact ⟨rfl,zx⟩)):p:=h
theorem zd0:∀(M:Nat),M<=5000->∀(t:Tms),t.size<=M->fineT t=true->∀(A:Option Addr) (n cap:Nat) (w:World),Tv w A n t ->
  Calls Tryz.prog 134 #[.slice A n cap] w fun e w'=>e = .returned (.int .i64 (lenT t 0))/\Ext w w':=by
 intro M
 induction M using Nat.strongRecOn with
 | ind M ih =>
  intro hM t ht hf A n cap w hv
  have HI:=Za ih
  have HV:=Za hv
  have hnm:n<=5000:=by have h1:=hv.1;have h2:=zap t;omega
  clear ih hv
  go_enter Tryz.func134,Tryz.ntmps134
  go_wp2_with fail
  go_loopw [3,9] (fun u i wr=>∃(k:Nat) (U:Int) (rest:Tms),i = .int .i64 k/\u = .int .i64 U/\rest.cnt+k=n/\rest.size<=M/\(0<=U/\U<=201) /\
   Hid (fineT rest=true/\lenT rest U=lenT t 0/\Ext w wr/\(0<rest.cnt->∃b off,A=some ⟨b,off,none⟩/\b<wr.heap.size/\TAt wr rest b (off+k*6)))) (fun _ i _=>n-(intOf i).toNat)
  case atStart =>
   refine ⟨0,0,t,rfl,rfl,by have:=HV.out.1;omega,ht,by omega,Za ⟨hf,rfl,Zf _,fun h=>?_⟩⟩
   obtain ⟨h1,h2,h3⟩:=HV.out
   obtain ⟨b,off,e,hb,hc⟩:=h3 (by omega)
   exact ⟨b,off,e,hb,by simpa using hc⟩
  case round =>
   obtain ⟨k,U,rest,rfl,rfl,hcnt,al,⟨hU0,hU1⟩,HH⟩:=hrel
   by_cases hlt:0<rest.cnt
   ·obtain ⟨N,c,g,r,rfl⟩:=zaO hlt
    obtain ⟨b,off,rfl,ab,hc⟩:=HH.out.2.2.2 hlt
    obtain ⟨A',n',cap',c0,c1,c2,c3,c4,c5,hkk,hg,hr⟩:=hc.head
    obtain ⟨⟨hN0,ah⟩,ac,ae⟩:=za9 HH.out.1
    have hxr:=HH.out.2.2.1
    simp only [Tms.cnt,Tms.size] at hcnt al
    have hkn:k<n:=by omega
    have hz:=Zn wr _ c0
    have aa:=fun (w':World) (h:Ext wr w')=>HI.out (M-1) (by omega) (by omega) g (by omega) ac A' n' cap' w' (hg.ext h)
    have HC:=Za aa
    have aj:=hg.1
    have HF:=Za ae
    clear aa hc
    by_cases hn':0<n'
    ·have ai:g ≠ .nil:=by rintro rfl;simp [Tms.cnt] at aj;omega
     have HL:=Za (zeC N c g r U ai)
     obtain ⟨af,ag⟩:=znl ac (m:=0) (by omega) (by omega)
     have HN:=Za ac
     clear ac ae
     generalize hLL:lenT g 0=L at *
     have hp0:0<=L*N:=Int.mul_nonneg af (by omega)
     have hp1:L*N<=201*200:=Int.mul_le_mul ag ah (by omega) (by omega)
     have m1:∀(ts:Array TypeId) (t:TypeId) (w:World),(Builtin.min_ ts t #[.int .i64 (U+L*N),.int .i64 201]).run Tryz.prog w = .ok (.int .i64 (min (U+L*N) 201)) w:=fun ts t w=>zaP ts t _ _
     have f1:=Zh (L*N) (by omega)
     have f2:=Zh (U+L*N) (by omega)
     go_wp2_with (go_at_call 134;((with_reducible refine (HC.out _ zx).mono ?_);rintro e w1 ⟨rfl,hq1⟩;obtain ⟨hf1,hf2,hf3⟩:=hq1.facts))
     go_roundw
     case rel =>
      have ad:Ext wr w1:=zx
      obtain ⟨_,e2,e3, -⟩:=HH.out
      rw [HL.out] at e2
      refine ⟨k+1,min (U+L*N) 201,r,by go_num,by go_num,by omega,by omega,by omega,Za ⟨HF.out,e2,e3.trans ad,fun h=>?_⟩⟩
      refine ⟨b,off,rfl,Zo ab (Zl ad),?_⟩
      rw [show off+(k+1)*6=off+k*6+6 by omega]
      exact hr.ext ad ab
     case measure=>simp [intOf];omega
    ·obtain rfl:=zas (t:=g) (by omega)
     obtain rfl:n'=0:=by omega
     have HL:=Za (zeD N c r U)
     have m1:∀(ts:Array TypeId) (t:TypeId) (w:World),(Builtin.min_ ts t #[.int .i64 (U+1*N),.int .i64 201]).run Tryz.prog w = .ok (.int .i64 (min (U+1*N) 201)) w:=fun ts t w=>zaP ts t _ _
     have m2:∀(ts:Array TypeId) (t:TypeId) (w:World),(Builtin.min_ ts t #[.int .i64 (U+N),.int .i64 201]).run Tryz.prog w = .ok (.int .i64 (min (U+N) 201)) w:=fun ts t w=>zaP ts t _ _
     go_wp2_with fail
     go_roundw
     case rel =>
      obtain ⟨_,e2,e3, -⟩:=HH.out
      rw [HL.out] at e2
      refine ⟨k+1,min (U+1*N) 201,r,by go_num,by first | go_num | simp,by omega,by omega,by omega,Za ⟨HF.out,e2,by first | exact e3 | exact e3.alloc _ ,fun h=>?_⟩⟩
      refine ⟨b,off,rfl,by first | exact ab | exact Zo ab (Zl ((Zf wr).alloc _)),?_⟩
      rw [show off+(k+1)*6=off+k*6+6 by omega]
      first | exact hr | exact hr.ext ((Zf wr).alloc _) ab
     case measure=>simp [intOf];omega
   ·have ak:rest.cnt=0:=by omega
    obtain rfl:=zas ak
    exact zpH
theorem zhQ:∀(M:Nat),M<=5000->∀(t:Tms),t.size<=M->fineT t=true->∀(A:Option Addr) (n cap:Nat) (w:World),Tv w A n t ->
  Calls Tryz.prog 107 #[.slice A n cap] w fun e w'=>e = .returned (.int .i64 (lenT t 0))/\Ext w w':=by
 intro M
 induction M using Nat.strongRecOn with
 | ind M ih =>
  intro hM t ht hf A n cap w hv
  have HI:=Za ih
  have HV:=Za hv
  have hnm:n<=5000:=by have h1:=hv.1;have h2:=zap t;omega
  clear ih hv
  go_enter Tryz.func107,Tryz.ntmps107
  go_wp2_with fail
  go_loopw [3,4] (fun u i wr=>∃(k:Nat) (U:Int) (rest:Tms),i = .int .i64 k/\u = .int .i64 U/\rest.cnt+k=n/\rest.size<=M/\(0<=U/\U<=201) /\
   Hid (fineT rest=true/\lenT rest U=lenT t 0/\Ext w wr/\(0<rest.cnt->∃b off,A=some ⟨b,off,none⟩/\b<wr.heap.size/\TAt wr rest b (off+k*6)))) (fun _ i _=>n-(intOf i).toNat)
  case atStart =>
   refine ⟨0,0,t,rfl,rfl,by have:=HV.out.1;omega,ht,by omega,Za ⟨hf,rfl,Zf _,fun h=>?_⟩⟩
   obtain ⟨h1,h2,h3⟩:=HV.out
   obtain ⟨b,off,e,hb,hc⟩:=h3 (by omega)
   exact ⟨b,off,e,hb,by simpa using hc⟩
  case round =>
   obtain ⟨k,U,rest,rfl,rfl,hcnt,al,⟨hU0,hU1⟩,HH⟩:=hrel
   by_cases hlt:0<rest.cnt
   ·obtain ⟨N,c,g,r,rfl⟩:=zaO hlt
    obtain ⟨b,off,rfl,ab,hc⟩:=HH.out.2.2.2 hlt
    obtain ⟨A',n',cap',c0,c1,c2,c3,c4,c5,hkk,hg,hr⟩:=hc.head
    obtain ⟨⟨hN0,ah⟩,ac,ae⟩:=za9 HH.out.1
    have hxr:=HH.out.2.2.1
    simp only [Tms.cnt,Tms.size] at hcnt al
    have hkn:k<n:=by omega
    have hz:=Zn wr _ c0
    have aa:=fun (w':World) (h:Ext wr w')=>HI.out (M-1) (by omega) (by omega) g (by omega) ac A' n' cap' w' (hg.ext h)
    have HC:=Za aa
    have aj:=hg.1
    have HF:=Za ae
    clear aa hc
    by_cases hn':0<n'
    ·have ai:g ≠ .nil:=by rintro rfl;simp [Tms.cnt] at aj;omega
     have HL:=Za (zeC N c g r U ai)
     obtain ⟨af,ag⟩:=znl ac (m:=0) (by omega) (by omega)
     have HN:=Za ac
     clear ac ae
     generalize hLL:lenT g 0=L at *
     have hp0:0<=L*N:=Int.mul_nonneg af (by omega)
     have hp1:L*N<=201*200:=Int.mul_le_mul ag ah (by omega) (by omega)
     have m1:∀(ts:Array TypeId) (t:TypeId) (w:World),(Builtin.min_ ts t #[.int .i64 (U+L*N),.int .i64 201]).run Tryz.prog w = .ok (.int .i64 (min (U+L*N) 201)) w:=fun ts t w=>zaP ts t _ _
     have f1:=Zh (L*N) (by omega)
     have f2:=Zh (U+L*N) (by omega)
     go_wp2_with (go_at_call 107;((with_reducible refine (HC.out _ zx).mono ?_);rintro e w1 ⟨rfl,hq1⟩;obtain ⟨hf1,hf2,hf3⟩:=hq1.facts))
     go_roundw
     case rel =>
      have ad:Ext wr w1:=zx
      obtain ⟨_,e2,e3, -⟩:=HH.out
      rw [HL.out] at e2
      refine ⟨k+1,min (U+L*N) 201,r,by go_num,by go_num,by omega,by omega,by omega,Za ⟨HF.out,e2,e3.trans ad,fun h=>?_⟩⟩
      refine ⟨b,off,rfl,Zo ab (Zl ad),?_⟩
      rw [show off+(k+1)*6=off+k*6+6 by omega]
      exact hr.ext ad ab
     case measure=>simp [intOf];omega
    ·obtain rfl:=zas (t:=g) (by omega)
     obtain rfl:n'=0:=by omega
     have HL:=Za (zeD N c r U)
     have m1:∀(ts:Array TypeId) (t:TypeId) (w:World),(Builtin.min_ ts t #[.int .i64 (U+1*N),.int .i64 201]).run Tryz.prog w = .ok (.int .i64 (min (U+1*N) 201)) w:=fun ts t w=>zaP ts t _ _
     have m2:∀(ts:Array TypeId) (t:TypeId) (w:World),(Builtin.min_ ts t #[.int .i64 (U+N),.int .i64 201]).run Tryz.prog w = .ok (.int .i64 (min (U+N) 201)) w:=fun ts t w=>zaP ts t _ _
     go_wp2_with fail
     go_roundw
     case rel =>
      obtain ⟨_,e2,e3, -⟩:=HH.out
      rw [HL.out] at e2
      refine ⟨k+1,min (U+1*N) 201,r,by go_num,by first | go_num | simp,by omega,by omega,by omega,Za ⟨HF.out,e2,by first | exact e3 | exact e3.alloc _ ,fun h=>?_⟩⟩
      refine ⟨b,off,rfl,by first | exact ab | exact Zo ab (Zl ((Zf wr).alloc _)),?_⟩
      rw [show off+(k+1)*6=off+k*6+6 by omega]
      first | exact hr | exact hr.ext ((Zf wr).alloc _) ab
     case measure=>simp [intOf];omega
   ·have ak:rest.cnt=0:=by omega
    obtain rfl:=zas ak
    exact zpH
end Go.Proofs.YtkneghkbgingdaaGreatDoor
/- The contracts of the functions of stitch that count. -/
namespace Go.Proofs.YtkneghkbgingdaaGreatDoor
set_option maxRecDepth 100000
open Go.RowKit
def formV (k:Int):Value := .agg #[.string ⟨(flt k).toArray⟩,.int .i64 (fa0 k),.int .i64 (fa1 k),.int .i64 (fb0 k),.int .i64 (fb1 k),.bool (fsd k),.int .i64 (fus k),.int .i64 (fmd k)]
theorem zaU (n lo hi:Int) (w:World) :
  Calls Tryz.prog 165 #[.int .i64 n,.agg #[.int .i64 lo,.int .i64 hi]] w fun e w'=>e = .returned (.bool (inR n lo hi))/\Ext w w':=by
 by_cases h:lo<=n
 ·go_enter Tryz.func165,Tryz.ntmps165
  go_wp2
  go_ret
  exact ⟨by simp [inR,h],zx⟩
 ·go_enter Tryz.func165,Tryz.ntmps165
  go_wp2
  go_ret
  exact ⟨by rw [zj6 (by omega)];rfl,zx⟩
def form0:Value := .agg #[.string ⟨#[]⟩,.int .i64 0,.int .i64 0,.int .i64 0,.int .i64 0,.bool false,.int .i64 0,.int .i64 0]
def formR (k:Int):Value:=if kindB k then formV k else form0
theorem zat (k:Int) (h0:0<=k) (h1:k<=255) (w:World):Calls Tryz.prog 157 #[.int .u8 k] w fun e w'=>e = .returned (.tuple #[formR k,.bool (kindB k)])/\Ext w w':=by
 go_enter Tryz.func157,Tryz.ntmps157
 go_upto_region 4 with (fail)
 have HR:∀b,kindB k=b->formR k=if b then formV k else form0:=fun b h=>by rw [formR,h]
 have aa:=Za HR
 clear HR
 cases hb:kindB k
 ·have HF:=Za (aa.out _ hb)
  have HB:=Za hb
  have hb2:=zoX hb
  clear hb
  rcases hb2 with hb2 | hb2
  all_goals
   go_wp2
   exact bodyPost_ret (v := .tuple #[.agg #[.string ⟨#[]⟩,.int .i64 0,.int .i64 0,.int .i64 0,.int .i64 0,.bool false,.int .i64 0,.int .i64 0],.bool false]) (by simp [results,Tryz.results157,go_sem]) rfl ⟨by rw [HF.out,HB.out];rfl,by repeat (first | exact Zf _ | assumption | refine Zp ?_ _ | refine Z2 ?_ | refine Ext.drewN ?_ _ | refine Zr ?_ (by simp) _)⟩
 ·rcases zax hb with e | e | e | e | e | e | e | e | e | e
  ·subst e
   have HF:=Za (aa.out _ hb)
   clear hb h0 h1
   go_wp2
   exact bodyPost_ret (v := .tuple #[.agg #[.string ⟨#[]⟩,.int .i64 0,.int .i64 0,.int .i64 0,.int .i64 0,.bool true,.int .i64 1,.int .i64 1],.bool true]) (by simp [results,Tryz.results157,go_sem]) rfl ⟨by rw [HF.out];rfl,by repeat (first | exact Zf _ | assumption | refine Zp ?_ _ | refine Z2 ?_ | refine Ext.drewN ?_ _ | refine Zr ?_ (by simp) _)⟩
  ·subst e
   have HF:=Za (aa.out _ hb)
   clear hb h0 h1
   go_wp2
   exact bodyPost_ret (v := .tuple #[.agg #[.string ⟨#[]⟩,.int .i64 0,.int .i64 0,.int .i64 0,.int .i64 0,.bool false,.int .i64 0,.int .i64 1],.bool true]) (by simp [results,Tryz.results157,go_sem]) rfl ⟨by rw [HF.out];rfl,by repeat (first | exact Zf _ | assumption | refine Zp ?_ _ | refine Z2 ?_ | refine Ext.drewN ?_ _ | refine Zr ?_ (by simp) _)⟩
  ·subst e
   have HF:=Za (aa.out _ hb)
   clear hb h0 h1
   go_wp2
   exact bodyPost_ret (v := .tuple #[.agg #[.string ⟨#[102]⟩,.int .i64 2,.int .i64 4,.int .i64 0,.int .i64 0,.bool true,.int .i64 2,.int .i64 1],.bool true]) (by simp [results,Tryz.results157,go_sem]) rfl ⟨by rw [HF.out];rfl,by repeat (first | exact Zf _ | assumption | refine Zp ?_ _ | refine Z2 ?_ | refine Ext.drewN ?_ _ | refine Zr ?_ (by simp) _)⟩
  ·subst e
   have HF:=Za (aa.out _ hb)
   clear hb h0 h1
   go_wp2
   exact bodyPost_ret (v := .tuple #[.agg #[.string ⟨#[108]⟩,.int .i64 2,.int .i64 4,.int .i64 0,.int .i64 0,.bool true,.int .i64 2,.int .i64 1],.bool true]) (by simp [results,Tryz.results157,go_sem]) rfl ⟨by rw [HF.out];rfl,by repeat (first | exact Zf _ | assumption | refine Zp ?_ _ | refine Z2 ?_ | refine Ext.drewN ?_ _ | refine Zr ?_ (by simp) _)⟩
  ·subst e
   have HF:=Za (aa.out _ hb)
   clear hb h0 h1
   go_wp2
   exact bodyPost_ret (v := .tuple #[.agg #[.string ⟨#[109]⟩,.int .i64 2,.int .i64 4,.int .i64 0,.int .i64 0,.bool true,.int .i64 1,.int .i64 2],.bool true]) (by simp [results,Tryz.results157,go_sem]) rfl ⟨by rw [HF.out];rfl,by repeat (first | exact Zf _ | assumption | refine Zp ?_ _ | refine Z2 ?_ | refine Ext.drewN ?_ _ | refine Zr ?_ (by simp) _)⟩
  ·subst e
   have HF:=Za (aa.out _ hb)
   clear hb h0 h1
   go_wp2
   exact bodyPost_ret (v := .tuple #[.agg #[.string ⟨#[120]⟩,.int .i64 1,.int .i64 6,.int .i64 1,.int .i64 6,.bool true,.int .i64 3,.int .i64 3],.bool true]) (by simp [results,Tryz.results157,go_sem]) rfl ⟨by rw [HF.out];rfl,by repeat (first | exact Zf _ | assumption | refine Zp ?_ _ | refine Z2 ?_ | refine Ext.drewN ?_ _ | refine Zr ?_ (by simp) _)⟩
  ·subst e
   have HF:=Za (aa.out _ hb)
   clear hb h0 h1
   go_wp2
   exact bodyPost_ret (v := .tuple #[.agg #[.string ⟨#[121]⟩,.int .i64 1,.int .i64 6,.int .i64 1,.int .i64 6,.bool true,.int .i64 3,.int .i64 3],.bool true]) (by simp [results,Tryz.results157,go_sem]) rfl ⟨by rw [HF.out];rfl,by repeat (first | exact Zf _ | assumption | refine Zp ?_ _ | refine Z2 ?_ | refine Ext.drewN ?_ _ | refine Zr ?_ (by simp) _)⟩
  ·subst e
   have HF:=Za (aa.out _ hb)
   clear hb h0 h1
   go_wp2
   exact bodyPost_ret (v := .tuple #[.agg #[.string ⟨#[115]⟩,.int .i64 0,.int .i64 0,.int .i64 0,.int .i64 0,.bool true,.int .i64 1,.int .i64 1],.bool true]) (by simp [results,Tryz.results157,go_sem]) rfl ⟨by rw [HF.out];rfl,by repeat (first | exact Zf _ | assumption | refine Zp ?_ _ | refine Z2 ?_ | refine Ext.drewN ?_ _ | refine Zr ?_ (by simp) _)⟩
  ·subst e
   have HF:=Za (aa.out _ hb)
   clear hb h0 h1
   go_wp2
   exact bodyPost_ret (v := .tuple #[.agg #[.string ⟨#[]⟩,.int .i64 1,.int .i64 200,.int .i64 0,.int .i64 0,.bool false,.int .i64 0,.int .i64 2],.bool true]) (by simp [results,Tryz.results157,go_sem]) rfl ⟨by rw [HF.out];rfl,by repeat (first | exact Zf _ | assumption | refine Zp ?_ _ | refine Z2 ?_ | refine Ext.drewN ?_ _ | refine Zr ?_ (by simp) _)⟩
  ·subst e
   have HF:=Za (aa.out _ hb)
   clear hb h0 h1
   go_wp2
   exact bodyPost_ret (v := .tuple #[.agg #[.string ⟨#[111]⟩,.int .i64 1,.int .i64 200,.int .i64 0,.int .i64 0,.bool true,.int .i64 2,.int .i64 0],.bool true]) (by simp [results,Tryz.results157,go_sem]) rfl ⟨by rw [HF.out];rfl,by repeat (first | exact Zf _ | assumption | refine Zp ?_ _ | refine Z2 ?_ | refine Ext.drewN ?_ _ | refine Zr ?_ (by simp) _)⟩
theorem zlZ (k:Int) (h0:0<=k) (h1:k<=255) (hb:kindB k=false) (w:World):Calls Tryz.prog 157 #[.int .u8 k] w fun e w'=>e = .returned (.tuple #[form0,.bool false])/\Ext w w':=by
 have:=zat k h0 h1 w
 rwa [formR,hb] at this
theorem zcj (k:Int) (hb:kindB k=true) (w:World):Calls Tryz.prog 157 #[.int .u8 k] w fun e w'=>e = .returned (.tuple #[formV k,.bool true])/\Ext w w':=by
 have h2:=zbe hb
 have:=zat k (by omega) (by omega) w
 rwa [formR,hb] at this
end Go.Proofs.YtkneghkbgingdaaGreatDoor
/- The contracts of Check,sum,All,Uses,Makes and Same of stitch. -/
namespace Go.Proofs.YtkneghkbgingdaaGreatDoor
set_option maxRecDepth 100000
open Go.RowKit
theorem za0 (k:Int) (p:Bool) (a b:Int) (h0:0<=k) (h1:k<=255) (w:World) :
  Calls Tryz.prog 137 #[.agg #[.int .u8 k,.bool p,.int .i64 a,.int .i64 b]] w fun e w'=>e = .returned (.int .i64 (okE ⟨k,p,a,b⟩))/\Ext w w':=by
 cases hk:kindB k
 ·have HE:=Za (show okE ⟨k,p,a,b⟩=8 by simp [okE,okSt,hk])
  go_enter Tryz.func137,Tryz.ntmps137
  go_wp2_with (go_at_call 157;((with_reducible refine (zlZ k h0 h1 hk _).mono ?_);rintro e w1 ⟨rfl,hq1⟩;unfold form0))
  go_ret
  exact ⟨by rw [HE.out];rfl,zx⟩
 cases ha:inR a (fa0 k) (fa1 k)
 ·have HE:=Za (show okE ⟨k,p,a,b⟩=8 by simp [okE,okSt,hk,ha])
  go_enter Tryz.func137,Tryz.ntmps137
  go_wp2_with (first | (go_at_call 157;((with_reducible refine (zcj k hk _).mono ?_);rintro e w1 ⟨rfl,hq1⟩;unfold formV;obtain ⟨ab,ac,ad⟩:=hq1.facts)) | (go_at_call 165;((with_reducible refine (zaU a (fa0 k) (fa1 k) _).mono ?_);rintro e w2 ⟨rfl,hq2⟩;obtain ⟨hg1,ae,af⟩:=hq2.facts;obtain ⟨ag,ah,ai⟩:=(Zi ((hq1.alloc _)) hq2).facts)))
  go_ret
  exact ⟨by rw [HE.out];rfl,zx⟩
 cases hb:inR b (fb0 k) (fb1 k)
 ·have HE:=Za (show okE ⟨k,p,a,b⟩=8 by simp [okE,okSt,hk,ha,hb])
  go_enter Tryz.func137,Tryz.ntmps137
  go_wp2_with (first | (go_at_call 157;((with_reducible refine (zcj k hk _).mono ?_);rintro e w1 ⟨rfl,hq1⟩;unfold formV;obtain ⟨ab,ac,ad⟩:=hq1.facts)) | (go_at_call 165;((with_reducible refine (zaU a (fa0 k) (fa1 k) _).mono ?_);rintro e w2 ⟨rfl,hq2⟩;obtain ⟨hg1,ae,af⟩:=hq2.facts;obtain ⟨ag,ah,ai⟩:=(Zi ((hq1.alloc _)) hq2).facts)) | (go_at_call 165;((with_reducible refine (zaU b (fb0 k) (fb1 k) _).mono ?_);rintro e w3 ⟨rfl,aa⟩;obtain ⟨aj,ak,al⟩:=(hq2.trans aa).facts;obtain ⟨am,an,ao⟩:=(Zi (Zi ((hq1.alloc _)) hq2) aa).facts)))
  go_ret
  exact ⟨by rw [HE.out];rfl,zx⟩
 have HE:=Za (show okE ⟨k,p,a,b⟩=if (p && !fsd k) then 8 else 0 by cases p <;> cases e:fsd k <;> simp [okE,okSt,hk,ha,hb,e])
 cases p
 ·go_enter Tryz.func137,Tryz.ntmps137
  go_wp2_with (first | (go_at_call 157;((with_reducible refine (zcj k hk _).mono ?_);rintro e w1 ⟨rfl,hq1⟩;unfold formV;obtain ⟨ab,ac,ad⟩:=hq1.facts)) | (go_at_call 165;((with_reducible refine (zaU a (fa0 k) (fa1 k) _).mono ?_);rintro e w2 ⟨rfl,hq2⟩;obtain ⟨hg1,ae,af⟩:=hq2.facts;obtain ⟨ag,ah,ai⟩:=(Zi ((hq1.alloc _)) hq2).facts)) | (go_at_call 165;((with_reducible refine (zaU b (fb0 k) (fb1 k) _).mono ?_);rintro e w3 ⟨rfl,aa⟩;obtain ⟨aj,ak,al⟩:=(hq2.trans aa).facts;obtain ⟨am,an,ao⟩:=(Zi (Zi ((hq1.alloc _)) hq2) aa).facts)))
  go_ret
  exact ⟨by rw [HE.out];rfl,zx⟩
 cases hs:fsd k
 all_goals
  rw [hs] at HE
  go_enter Tryz.func137,Tryz.ntmps137
  go_wp2_with (first | (go_at_call 157;((with_reducible refine (zcj k hk _).mono ?_);rintro e w1 ⟨rfl,hq1⟩;unfold formV;obtain ⟨ab,ac,ad⟩:=hq1.facts)) | (go_at_call 165;((with_reducible refine (zaU a (fa0 k) (fa1 k) _).mono ?_);rintro e w2 ⟨rfl,hq2⟩;obtain ⟨hg1,ae,af⟩:=hq2.facts;obtain ⟨ag,ah,ai⟩:=(Zi ((hq1.alloc _)) hq2).facts)) | (go_at_call 165;((with_reducible refine (zaU b (fb0 k) (fb1 k) _).mono ?_);rintro e w3 ⟨rfl,aa⟩;obtain ⟨aj,ak,al⟩:=(hq2.trans aa).facts;obtain ⟨am,an,ao⟩:=(Zi (Zi ((hq1.alloc _)) hq2) aa).facts)))
  go_ret
  exact ⟨by rw [HE.out];rfl,zx⟩
theorem zfB (k:Int) (p:Bool) (a b how:Int) (ha : -1000<=a/\a<=1000) (hb : -1000<=b/\b<=1000) (hh:0<=how/\how<=3) (w:World) :
  Calls Tryz.prog 158 #[.agg #[.int .u8 k,.bool p,.int .i64 a,.int .i64 b],.int .i64 how] w fun e w'=>e = .returned (.int .i64 (lpV a b how))/\Ext w w':=by
 obtain ⟨ha0,ha1⟩:=ha
 obtain ⟨hb0,hb1⟩:=hb
 have i0:∀(x y:Int) w,(Instr.index 101 (.agg #[.int .i64 0,.int .i64 1,.int .i64 x,.int .i64 y]) (.int .i64 0)).run Tryz.prog w = .ok (.int .i64 0) w:=fun _ _ _=>by kernel_rfl
 have i1:∀(x y:Int) w,(Instr.index 101 (.agg #[.int .i64 0,.int .i64 1,.int .i64 x,.int .i64 y]) (.int .i64 1)).run Tryz.prog w = .ok (.int .i64 1) w:=fun _ _ _=>by kernel_rfl
 have i2:∀(x y:Int) w,(Instr.index 101 (.agg #[.int .i64 0,.int .i64 1,.int .i64 x,.int .i64 y]) (.int .i64 2)).run Tryz.prog w = .ok (.int .i64 x) w:=fun _ _ _=>by kernel_rfl
 have i3:∀(x y:Int) w,(Instr.index 101 (.agg #[.int .i64 0,.int .i64 1,.int .i64 x,.int .i64 y]) (.int .i64 3)).run Tryz.prog w = .ok (.int .i64 y) w:=fun _ _ _=>by kernel_rfl
 have aa:how=0∨how=1∨how=2∨how=3:=by omega
 rcases aa with rfl | rfl | rfl | rfl
 all_goals
  go_enter Tryz.func158,Tryz.ntmps158
  go_wp2
  go_ret
  exact ⟨rfl,zx⟩
theorem zeV (n c:Nat) (A:Option Addr) (l:List St) (w:World) (hl:Vec shSt w A n l) (hn:n<=200) (hb:allB l=true) :
  Calls Tryz.prog 127 #[.slice A n c] w fun e w'=>e = .returned (.tuple #[.int .i64 (usL l),.int .i64 (mkL l)])/\Ext w w':=by
 have HX:=Za hl
 have HB:=Za hb
 have HL:=Za hl.1
 clear hl hb
 go_enter Tryz.func127,Tryz.ntmps127
 go_wp2_with fail
 go_loopw [2,3,10] (fun u m i wr=>∃k:Nat,k<=n/\i = .int .i64 k/\u = .int .i64 (usL (l.take k))/\m = .int .i64 (mkL (l.take k))/\Hid (Ext w wr)) (fun _ _ i _=>n-(intOf i).toNat)
 case atStart=>exact ⟨0,by omega,rfl,by simp [usL],by simp [mkL],Zf _⟩
 case round =>
  obtain ⟨k,hk,rfl,rfl,rfl,aa⟩:=hrel
  have hxr:=aa.out
  by_cases hlt:k<n
  ·obtain ⟨b,off,rfl,hb1,hc⟩:=Sts.all (Vec.ext HX.out aa.out) (by omega)
   obtain ⟨c1,c2,c3,c4⟩:=hc k hlt
   have hz:=Zn wr _ c1
   have ab:=zcy HB.out (k:=k) (by rw [HL.out];exact hlt)
   have h1:=Za (ze5 (l:=l) (k:=k) (by rw [HL.out];exact hlt))
   have h2:=Za (zeE (l:=l) (k:=k) (by rw [HL.out];exact hlt))
   obtain ⟨⟨s1,s2⟩,⟨s3,s4⟩⟩:=zeW HB.out k (by rw [HL.out];omega)
   have ac:=Za (zeG ab)
   obtain ⟨⟨t1,t2,t3,t4⟩,⟨t5,t6⟩,⟨t7,t8⟩,⟨t9,t10⟩,⟨t11,t12⟩⟩:=zn1 ab
   clear hc ab
   generalize l.getD k st0=s at *
   obtain ⟨sk,sp,sa,sb⟩:=s
   simp only at c1 c2 c3 c4 t1 t2 t3 t4 t5 t6 t7 t8 t9 t10 t11 t12
   unfold usV at t5 t6 h1
   unfold mkV at t7 t8 h2
   simp only at t5 t6 t7 t8 h1 h2
   generalize usL (l.take k)=U at *
   generalize mkL (l.take k)=M at *
   go_wp2_with (first | (go_at_call 157;((with_reducible refine (zcj sk ac.out _).mono ?_);rintro e w1 ⟨rfl,hq1⟩;unfold formV;obtain ⟨hf1,hf2,hf3⟩:=hq1.facts)) | (go_at_call 158;((with_reducible refine (zfB sk sp sa sb (fus sk) (by omega) (by omega) (by omega) _).mono ?_);rintro e w2 ⟨rfl,hq2⟩;obtain ⟨hg1,hg2,hg3⟩:=hq2.facts;obtain ⟨hh1,hh2,hh3⟩:=(Zi (hq1.alloc _) hq2).facts)) | (go_at_call 158;((with_reducible refine (zfB sk sp sa sb (fmd sk) (by omega) (by omega) (by omega) _).mono ?_);rintro e w3 ⟨rfl,hq3⟩)))
   go_roundw
   case rel=>exact ⟨k+1,by omega,by go_num,by rw [h1.out],by rw [h2.out],zx⟩
   case measure=>simp [intOf];omega
  ·obtain rfl:k=n:=by omega
   have e1:l.take k=l:=ZE (by rw [HL.out];omega)
   rw [e1]
   clear e1
   go_wp2
   go_ret2
   exact ⟨rfl,zx⟩
theorem zhf (k:Int) (p:Bool) (a b:Int) (h0:0<=k) (h1:k<=255) (w:World) :
  Calls Tryz.prog 156 #[.agg #[.int .u8 k,.bool p,.int .i64 a,.int .i64 b]] w fun e w'=>e = .returned (.bool (!okSt ⟨k,p,a,b⟩))/\Ext w w':=by
 have HE:=Za (show okE ⟨k,p,a,b⟩=if okSt ⟨k,p,a,b⟩ then 0 else 8 from rfl)
 have hc:=za0 k p a b h0 h1
 cases h:okSt ⟨k,p,a,b⟩
 all_goals
  rw [h] at HE
  rw [show okE ⟨k,p,a,b⟩=_ from HE.out] at hc
  have HC:=Za hc
  clear hc
  go_enter Tryz.func156,Tryz.ntmps156
  go_wp2_with (go_at_call 137;((with_reducible refine (HC.out _).mono ?_);rintro e w1 ⟨rfl,hq1⟩))
  go_ret
  exact ⟨rfl,zx⟩
theorem zix (n c:Nat) (A:Option Addr) (l:List St) (w:World) (hl:Vec shSt w A n l) (hn:n<=maxLen) (hby:Bytes l) :
  Calls Tryz.prog 179 #[.slice A n c,.func (.func 156) #[] #[]] w fun e w'=>(∃j:Int,e = .returned (.int .i64 j)/\decide (0<=j) = !allB l /\ -1<=j)/\Ext w w':=by
 have HX:=Za hl
 have HL:=Za hl.1
 have ac:=Za hby
 unfold maxLen at hn
 have hn2:(n:Int)<=9223372036854775807:=by omega
 clear hl hby hn
 go_enter Tryz.func179,Tryz.ntmps179
 go_wp2_with fail
 go_loopw [8] (fun i wr=>∃k:Nat,k<=n/\i = .int .i64 k/\Hid (∀j,j<k->okSt (l.getD j st0)=true)/\Hid (Ext w wr)) (fun i _=>n-(intOf i).toNat)
 case atStart=>exact ⟨0,by omega,rfl,fun j hj=>absurd hj (by omega),Zf _⟩
 case round =>
  obtain ⟨k,hk,rfl,aa,ab⟩:=hrel
  have hxr:=ab.out
  by_cases hlt:k<n
  ·obtain ⟨b,off,rfl,hb1,hc⟩:=Sts.all (Vec.ext HX.out ab.out) (by omega)
   obtain ⟨c1,c2,c3,c4⟩:=hc k hlt
   obtain ⟨y1,y2⟩:=ac.out k (by rw [HL.out];exact hlt)
   clear hc
   cases hr:okSt (l.getD k st0)
   ·have HA:=Za (zc2 HL.out hlt hr)
    generalize l.getD k st0=s at *
    obtain ⟨sk,sp,sa,sb⟩:=s
    simp only at c1 c2 c3 c4 y1 y2
    have HR:=Za hr
    clear hr aa
    go_wp2_with fail
    refine (zhf sk sp sa sb y1 y2 wr).mono ?_
    rintro e w1 ⟨rfl,hq1⟩
    rw [HR.out]
    go_wp2
    go_ret
    exact ⟨⟨k,rfl,by rw [HA.out];simp,by omega⟩,zx⟩
   ·have HA:=Za (show ∀j,j<k+1->okSt (l.getD j st0)=true from fun j hj=>by
      by_cases e:j=k
      ·subst e;exact hr
      ·exact aa.out j (by omega))
    generalize l.getD k st0=s at *
    obtain ⟨sk,sp,sa,sb⟩:=s
    simp only at c1 c2 c3 c4 y1 y2
    have HR:=Za hr
    clear hr aa
    go_wp2_with fail
    refine (zhf sk sp sa sb y1 y2 wr).mono ?_
    rintro e w1 ⟨rfl,hq1⟩
    rw [HR.out]
    go_wp2
    go_roundw
    case rel=>exact ⟨k+1,by omega,by go_num,HA,zx⟩
    case measure=>simp [intOf];omega
  ·obtain rfl:k=n:=by omega
   have HA:=Za (zem HL.out aa.out)
   go_wp2
   go_ret
   exact ⟨⟨-1,rfl,by rw [HA.out];simp,by omega⟩,zx⟩
theorem zeq (n c:Nat) (A:Option Addr) (l:List St) (w:World) (hl:Vec shSt w A n l) (hn:n<=maxLen) (hby:Bytes l) :
  Calls Tryz.prog 155 #[.slice A n c,.func (.func 156) #[] #[]] w fun e w'=>e = .returned (.bool (!allB l))/\Ext w w':=by
 have HI:=Za (zix n c A l w hl hn hby)
 go_enter Tryz.func155,Tryz.ntmps155
 go_wp2_with (go_at_call 179;((with_reducible refine (HI.out).mono ?_);rintro e w1 ⟨⟨j,rfl,hj,hj2⟩,hq1⟩;have HJ:=Za hj;clear hj))
 go_ret
 exact ⟨by rw [<-HJ.out];rfl,zx⟩
theorem zcr (n c:Nat) (A:Option Addr) (l:List St) (w:World) (hl:Vec shSt w A n l) (hn:n<=maxLen) (hby:Bytes l) :
  Calls Tryz.prog 126 #[.slice A n c] w fun e w'=>e = .returned (.int .i64 (allE l))/\Ext w w':=by
 have HX:=Za hl
 have HL:=Za hl.1
 have hn2:(n:Int)<=9223372036854775807:=by unfold maxLen at hn;omega
 by_cases h1:200<n
 ·have HE:=Za (zfg (l:=l) (by rw [HL.out];exact h1))
  clear hl hby
  go_enter Tryz.func126,Tryz.ntmps126
  go_wp2
  go_ret
  exact ⟨by rw [HE.out];rfl,zx⟩
 have HI:=Za (zeq n c A l w hl hn hby)
 clear hl hby
 cases h2:allB l
 ·have HE:=Za (zhg (l:=l) (by rw [HL.out];exact h1) h2)
  go_enter Tryz.func126,Tryz.ntmps126
  go_wp2_with (go_at_call 155;((with_reducible refine (HI.out).mono ?_);rintro e w1 ⟨rfl,hq1⟩))
  go_ret
  exact ⟨by rw [HE.out];rfl,zx⟩
 have HB:=Za h2
 have aa:=zeW h2 l.length (Zg _)
 rw [ZE (Zg _)] at aa
 rw [HL.out] at aa
 obtain ⟨⟨s1,s2⟩,⟨s3,s4⟩⟩:=aa
 have hmx:∀(ts:Array TypeId) (t:TypeId) (w:World),(Builtin.max_ ts t #[.int .i64 (usL l),.int .i64 (mkL l)]).run Tryz.prog w = .ok (.int .i64 (max (usL l) (mkL l))) w:=fun ts t w=>by
  rw [run_max_int2];congr 2;split <;> omega
 by_cases h3:200<max (usL l) (mkL l)
 ·have HE:=Za (zdk (l:=l) (by rw [HL.out];exact h1) h2 h3)
  have ab:decide (200<max (usL l) (mkL l))=true:=by simpa using h3
  clear h3
  go_enter Tryz.func126,Tryz.ntmps126
  go_wp2_with (first | (go_at_call 155;((with_reducible refine (HI.out).mono ?_);rintro e w1 ⟨rfl,hq1⟩)) | (go_at_call 127;((with_reducible refine (zeV n c A l _ (Vec.ext HX.out hq1) (by omega) HB.out).mono ?_);rintro e w2 ⟨rfl,hq2⟩)))
  go_ret
  exact ⟨by rw [HE.out];rfl,zx⟩
 ·have HE:=Za (zjr (l:=l) (by rw [HL.out];exact h1) h2 h3)
  have ab:decide (200<max (usL l) (mkL l))=false:=by simpa using h3
  clear h3
  go_enter Tryz.func126,Tryz.ntmps126
  go_wp2_with (first | (go_at_call 155;((with_reducible refine (HI.out).mono ?_);rintro e w1 ⟨rfl,hq1⟩)) | (go_at_call 127;((with_reducible refine (zeV n c A l _ (Vec.ext HX.out hq1) (by omega) HB.out).mono ?_);rintro e w2 ⟨rfl,hq2⟩)))
  go_ret
  exact ⟨by rw [HE.out];rfl,zx⟩
end Go.Proofs.YtkneghkbgingdaaGreatDoor
/- The contracts of Uses,Makes and Same of stitch,and of the reference of what counts. -/
namespace Go.Proofs.YtkneghkbgingdaaGreatDoor
set_option maxRecDepth 100000
open Go.RowKit
attribute [local go_sem] zaq
theorem zpJ {p:Prop} (h:p:=by
 go_wp2_with (go_at_call 126;((with_reducible refine (HI.out).mono ?_);rintro e w1 ⟨rfl,hq1⟩))
 go_ret2
 exact ⟨by rw [HV.out];rfl,zx⟩):p:=h
theorem ze6 (n c:Nat) (A:Option Addr) (l:List St) (w:World) (hl:Vec shSt w A n l) (hn:n<=maxLen) (hby:Bytes l) :
  Calls Tryz.prog 96 #[.slice A n c] w fun e w'=>e = .returned (.tuple #[.int .i64 (usG l),.int .i64 (allE l)])/\Ext w w':=by
 have HI:=Za (zcr n c A l w hl hn hby)
 have HX:=Za hl
 by_cases h:allE l=0
 ·have HV:=Za (show usG l=usL l by rw [usG,if_pos h])
  have HE:=Za h
  obtain ⟨h1,h2,_,_⟩:=za8 h
  rw [hl.1] at h1
  have HB:=Za h2
  clear h h2 hl hby
  go_enter Tryz.func96,Tryz.ntmps96
  go_wp2_with (first | (go_at_call 126;((with_reducible refine (HI.out).mono ?_);rintro e w1 ⟨rfl,hq1⟩;rw [HE.out])) | (go_at_call 127;((with_reducible refine (zeV n c A l _ (Vec.ext HX.out hq1) (by omega) HB.out).mono ?_);rintro e w2 ⟨rfl,hq2⟩)))
  go_ret2
  exact ⟨by rw [HV.out,HE.out];rfl,zx⟩
 ·have HV:=Za (show usG l=0 by rw [usG,if_neg h])
  have hb:(allE l != 0)=true:=by simpa using h
  clear h hl hby
  go_enter Tryz.func96,Tryz.ntmps96
  exact zpJ
theorem zkk (n c:Nat) (A:Option Addr) (l:List St) (w:World) (hl:Vec shSt w A n l) (hn:n<=maxLen) (hby:Bytes l) :
  Calls Tryz.prog 97 #[.slice A n c] w fun e w'=>e = .returned (.tuple #[.int .i64 (mkG l),.int .i64 (allE l)])/\Ext w w':=by
 have HI:=Za (zcr n c A l w hl hn hby)
 have HX:=Za hl
 by_cases h:allE l=0
 ·have HV:=Za (show mkG l=mkL l by rw [mkG,if_pos h])
  have HE:=Za h
  obtain ⟨h1,h2,_,_⟩:=za8 h
  rw [hl.1] at h1
  have HB:=Za h2
  clear h h2 hl hby
  go_enter Tryz.func97,Tryz.ntmps97
  go_wp2_with (first | (go_at_call 126;((with_reducible refine (HI.out).mono ?_);rintro e w1 ⟨rfl,hq1⟩;rw [HE.out])) | (go_at_call 127;((with_reducible refine (zeV n c A l _ (Vec.ext HX.out hq1) (by omega) HB.out).mono ?_);rintro e w2 ⟨rfl,hq2⟩)))
  go_ret2
  exact ⟨by rw [HV.out,HE.out];rfl,zx⟩
 ·have HV:=Za (show mkG l=0 by rw [mkG,if_neg h])
  have hb:(allE l != 0)=true:=by simpa using h
  clear h hl hby
  go_enter Tryz.func97,Tryz.ntmps97
  exact zpJ
theorem zjf (n m c d:Nat) (A B:Option Addr) (xs ys:List St) (w:World) (hx:Vec shSt w A n xs) (hy:Vec shSt w B m ys) (hn:n<=maxLen) :
  Calls Tryz.prog 98 #[.slice A n c,.slice B m d] w fun e w'=>e = .returned (.bool (decide (xs=ys)))/\Ext w w':=by
 have HX:=Za hx
 have HY:=Za hy
 unfold maxLen at hn
 have hn2:(n:Int)<=9223372036854775807:=by omega
 clear hx hy hn
 by_cases hnm:n=m
 ·subst hnm
  go_enter Tryz.func98,Tryz.ntmps98
  go_wp2_with fail
  go_loopw [13] (fun i wr=>∃k:Nat,k<=n/\i = .int .i64 k/\Hid (∀j,j<k->xs.getD j st0=ys.getD j st0)/\Hid (Ext w wr)) (fun i _=>n-(intOf i).toNat)
  case atStart=>exact ⟨0,by omega,rfl,fun j hj=>absurd hj (by omega),Zf _⟩
  case round =>
   obtain ⟨k,hk,rfl,ab,aa⟩:=hrel
   have:=aa.out
   by_cases hlt:k<n
   ·obtain ⟨b,off,rfl,hb,hc⟩:=Sts.all (HX.out.ext aa.out) (by omega)
    obtain ⟨b',off',rfl,hb',ac⟩:=Sts.all (HY.out.ext aa.out) (by omega)
    obtain ⟨h1,h2,h3,h4⟩:=hc k hlt
    obtain ⟨h5,h6,h7,h8⟩:=ac k hlt
    clear hc ac
    have q0:(0:Int)<=(k:Int):=by omega
    have q1:(k:Int)<(n:Int):=by omega
    by_cases hxy:xs.getD k st0=ys.getD k st0
    ·have HA:=Za (show ∀j,j<k+1->xs.getD j st0=ys.getD j st0 from fun j hj=>by
      by_cases e:j=k
      ·subst e;exact hxy
      ·exact ab.out j (by omega))
     rw [<-hxy] at h5 h6 h7 h8
     clear ab hxy
     generalize xs.getD k st0=x at *
     obtain ⟨x1,x2,x3,x4⟩:=x
     simp only at h1 h2 h3 h4 h5 h6 h7 h8
     go_wp2_with fail
     go_quiet (fail)
     go_wp2
     go_roundw
     case rel=>exact ⟨k+1,by omega,by go_num,HA,zx⟩
     case measure=>simp [intOf];omega
    ·have HF:=Za (show decide (xs=ys)=false by
      simp only [ZX];rintro rfl;exact hxy rfl)
     generalize xs.getD k st0=x at *
     generalize ys.getD k st0=y at *
     obtain ⟨x1,x2,x3,x4⟩:=x
     obtain ⟨y1,y2,y3,y4⟩:=y
     simp only at h1 h2 h3 h4 h5 h6 h7 h8
     have hne:=zbq hxy
     clear hxy
     go_wp2_with fail
     go_quiet (fail)
     go_wp2
     go_ret
     exact ⟨by rw [HF.out];rfl,zx⟩
   ·obtain rfl:k=n:=by omega
    have HF:=Za (show decide (xs=ys)=true from ZW (zpf HX.out.1 HY.out.1 ab.out))
    go_wp2
    go_ret
    exact ⟨by rw [HF.out];rfl,aa.out⟩
 ·have HF:=Za (show decide (xs=ys)=false by
   simp only [ZX];rintro rfl;exact hnm (HX.out.1.symm.trans HY.out.1))
  have hne:((n:Int) != (m:Int))=true:=by simp;omega
  go_enter Tryz.func98,Tryz.ntmps98
  go_wp2_with fail
  go_ret
  exact ⟨by rw [HF.out];rfl,zx⟩
theorem zlf (n m c d:Nat) (A B:Option Addr) (xs ys:List St) (w:World) (hx:Vec shSt w A n xs) (hy:Vec shSt w B m ys) (hn:n<=maxLen) :
  Calls Tryz.prog 68 #[.slice A n c,.slice B m d] w fun e w'=>e = .returned (.bool (decide (xs=ys)))/\Ext w w':=by
 have HI:=Za (zjf n m c d A B xs ys w hx hy hn)
 clear hx hy hn
 go_enter Tryz.func68,Tryz.ntmps68
 go_wp2_with (go_at_call 98;((with_reducible refine (HI.out).mono ?_);rintro e w1 ⟨rfl,hq1⟩))
 go_ret
 exact ⟨rfl,zx⟩
theorem zdJ (n m c d:Nat) (A B:Option Addr) (xs ys:List St) (w:World) (hx:Vec shSt w A n xs) (hy:Vec shSt w B m ys) (hn:n<=maxLen) :
  Calls Tryz.prog 49 #[.slice A n c,.slice B m d] w fun e w'=>e = .returned (.bool (decide (xs=ys)))/\Ext w w':=by
 have HX:=Za hx
 have HY:=Za hy
 unfold maxLen at hn
 have hn2:(n:Int)<=9223372036854775807:=by omega
 clear hx hy hn
 by_cases hnm:n=m
 ·subst hnm
  go_enter Tryz.func49,Tryz.ntmps49
  go_wp2_with fail
  go_loopw [5] (fun i wr=>∃k:Nat,k<=n/\i = .int .i64 k/\Hid (∀j,j<k->xs.getD j st0=ys.getD j st0)/\Hid (Ext w wr)) (fun i _=>n-(intOf i).toNat)
  case atStart=>exact ⟨0,by omega,rfl,fun j hj=>absurd hj (by omega),Zf _⟩
  case round =>
   obtain ⟨k,hk,rfl,ab,aa⟩:=hrel
   have:=aa.out
   by_cases hlt:k<n
   ·obtain ⟨b,off,rfl,hb,hc⟩:=Sts.all (HX.out.ext aa.out) (by omega)
    obtain ⟨b',off',rfl,hb',ac⟩:=Sts.all (HY.out.ext aa.out) (by omega)
    obtain ⟨h1,h2,h3,h4⟩:=hc k hlt
    obtain ⟨h5,h6,h7,h8⟩:=ac k hlt
    clear hc ac
    have q0:(0:Int)<=(k:Int):=by omega
    have q1:(k:Int)<(n:Int):=by omega
    by_cases hxy:xs.getD k st0=ys.getD k st0
    ·have HA:=Za (show ∀j,j<k+1->xs.getD j st0=ys.getD j st0 from fun j hj=>by
      by_cases e:j=k
      ·subst e;exact hxy
      ·exact ab.out j (by omega))
     rw [<-hxy] at h5 h6 h7 h8
     clear ab hxy
     generalize xs.getD k st0=x at *
     obtain ⟨x1,x2,x3,x4⟩:=x
     simp only at h1 h2 h3 h4 h5 h6 h7 h8
     go_wp2_with fail
     go_quiet (fail)
     go_wp2
     go_roundw
     case rel=>exact ⟨k+1,by omega,by go_num,HA,zx⟩
     case measure=>simp [intOf];omega
    ·have HF:=Za (show decide (xs=ys)=false by
      simp only [ZX];rintro rfl;exact hxy rfl)
     generalize xs.getD k st0=x at *
     generalize ys.getD k st0=y at *
     obtain ⟨x1,x2,x3,x4⟩:=x
     obtain ⟨y1,y2,y3,y4⟩:=y
     simp only at h1 h2 h3 h4 h5 h6 h7 h8
     have hne:=zbq hxy
     clear hxy
     go_wp2_with fail
     go_quiet (fail)
     go_wp2
     go_ret
     exact ⟨by rw [HF.out];rfl,zx⟩
   ·obtain rfl:k=n:=by omega
    have HF:=Za (show decide (xs=ys)=true from ZW (zpf HX.out.1 HY.out.1 ab.out))
    go_wp2
    go_ret
    exact ⟨by rw [HF.out];rfl,aa.out⟩
 ·have HF:=Za (show decide (xs=ys)=false by
   simp only [ZX];rintro rfl;exact hnm (HX.out.1.symm.trans HY.out.1))
  have hne:((n:Int) != (m:Int))=true:=by simp;omega
  go_enter Tryz.func49,Tryz.ntmps49
  go_wp2_with fail
  go_ret
  exact ⟨by rw [HF.out];rfl,zx⟩
end Go.Proofs.YtkneghkbgingdaaGreatDoor
