/- The reference's period. -/
import Derived.Test.YtkneghkbgingdaaGreatDoorP41
namespace Go.Proofs.YtkneghkbgingdaaGreatDoor
set_option maxRecDepth 100000
set_option maxRecDepth 100000
open Go.RowKit Go.ChangeShapes Go.WideShapes Go.Joins
set_option maxHeartbeats 4000000 in
theorem zdq (m c p:Nat) (A:Option Addr) (l:List St) (w:World) (hl:Vec shSt w A m l) (hm60:m≤60) (hp:1≤p) (hpm:p<m) :
  Calls Tryz.prog 140 #[.slice A m c,.int .i64 p] w fun e w'=>e = .returned (.bool (perB l p))∧∃q,w'=w.drewN q:=by
 have HX:=Lib.hid hl
 have hsl:=hl.1
 have hp0:¬((p:Int)=0):=by omega
 have r1:¬((p:Int)<1):=by omega
 have r2:¬((m:Int)≤(p:Int)):=by omega
 clear hl
 by_cases hmod:m % p=0
 case neg =>
  have HF:=Lib.hid (zjX (l:=l) (p:=p) (by rw [hsl];exact hmod))
  have hm2:((m:Int) % (p:Int) != 0)=true:=by
   simp
   omega
  go_enter Tryz.func140,Tryz.ntmps140
  go_wp2_with fail
  go_ret
  exact ⟨by rw [HF.out];rfl,0,rfl⟩
 have hm2:((m:Int) % (p:Int) != 0)=false:=by
  simp
  omega
 go_enter Tryz.func140,Tryz.ntmps140
 go_wp2_with fail
 go_loopw [5] (fun i wr=>∃j:Nat,i = .int .i64 (j:Int)∧j+p≤m∧Hid (∀j',j'<j→l.getD j' st0=l.getD (j'+p) st0)∧Hid (∃q,wr=w.drewN q)) (fun i _=>m-(intOf i).toNat)
 case atStart=>exact ⟨0,by simp,by omega,fun j hj=>absurd hj (by omega),0,rfl⟩
 case round =>
  obtain ⟨j,rfl,hj,hall,hext⟩:=hrel
  obtain ⟨q,rfl⟩:=hext.out
  have hx:Ext w (w.drewN q):=(Ext.refl w).drewN q
  have s2:=IntWalk.i64_in ((j:Int)+(p:Int)) (by omega)
  have s3:=IntWalk.i64_in ((j:Int)+1) (by omega)
  by_cases hlt:j+p<m
  ·have q4:(j:Int)+(p:Int)<(m:Int):=by omega
   obtain ⟨b,off,rfl,hb,hc⟩:=Sts.all HX.out (by omega)
   obtain ⟨h1,h2,h3,h4⟩:=hc j (by omega)
   obtain ⟨h5,h6,h7,h8⟩:=hc (j+p) (by omega)
   clear hc
   have q0:(0:Int)≤(j:Int):=by omega
   have q1:(j:Int)<(m:Int):=by omega
   have q2:(0:Int)≤(j:Int)+(p:Int):=by omega
   have n2:((j:Int)+(p:Int)).toNat=j+p:=by omega
   by_cases hxy:l.getD j st0=l.getD (j+p) st0
   ·have HA:=Lib.hid (show ∀j',j'<j+1→l.getD j' st0=l.getD (j'+p) st0 from fun j' hj'=>by
     by_cases e:j'=j
     ·subst e;exact hxy
     ·exact hall.out j' (by omega))
    rw [←hxy] at h5 h6 h7 h8
    clear hall hxy
    generalize l.getD j st0=x at *
    obtain ⟨x1,x2,x3,x4⟩:=x
    simp only at h1 h2 h3 h4 h5 h6 h7 h8
    go_wp2_with fail
    go_quiet (fail)
    go_wp2
    go_roundw
    case rel=>exact ⟨j+1,by go_num,by omega,HA,q+nq,by first | rfl | (rw [World.drewN_drewN]) | (simp;done)⟩
    case measure=>simp [intOf];omega
   ·have HF:=Lib.hid (zlv (l:=l) (p:=p) (j:=j) (by rw [hsl];exact hlt) hxy)
    clear hall
    generalize l.getD j st0=x at *
    generalize l.getD (j+p) st0=y at *
    obtain ⟨x1,x2,x3,x4⟩:=x
    obtain ⟨y1,y2,y3,y4⟩:=y
    simp only at h1 h2 h3 h4 h5 h6 h7 h8
    have hne:=zbm hxy
    clear hxy
    go_wp2_with fail
    go_quiet (fail)
    go_wp2
    go_ret
    exact ⟨by rw [HF.out];rfl,q+nq,by first | rfl | (rw [World.drewN_drewN]) | (simp;done)⟩
  ·have q4:¬((j:Int)+(p:Int)<(m:Int)):=by omega
   have HF:=Lib.hid (zb9 (l:=l) (p:=p) (by rw [hsl];exact hmod) (by omega) (fun j' hj'=>hall.out j' (by omega)))
   go_wp2_with fail
   go_ret
   exact ⟨by rw [HF.out];rfl,q,rfl⟩
end Go.Proofs.YtkneghkbgingdaaGreatDoor
