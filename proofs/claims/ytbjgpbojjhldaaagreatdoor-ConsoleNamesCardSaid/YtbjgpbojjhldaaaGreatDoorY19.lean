/- The contracts of Check and Shares of seam. -/
import Derived.Test.YtbjgpbojjhldaaaGreatDoorY18
set_option maxHeartbeats 16000000
namespace Go.Proofs.YtbjgpbojjhldaaaGreatDoor
set_option maxRecDepth 100000
open Go.RowKit
attribute [local go_sem] zgX
theorem zg0 (n c:Nat) (A:Option Addr) (l:List (Int×Int)) (a b:Int) (w:World) (hl:Vec shPair w A n l) (hm:n<=maxLen) :
  Calls Tryz.prog 160 #[.slice A n c,.int .i64 a,.int .i64 b] w fun e w'=>e = .returned (.int .i64 (chkE l a b))/\Ext w w':=by
 have HX:=Za hl
 clear hl
 unfold maxLen at hm
 cases h:edOk a b
 ·have HE:=Za (show edB a b=2 by simp [edB,h])
  have HK:=Za (show chkE l a b=2 by simp [chkE,h])
  clear h
  go_enter Tryz.func160,Tryz.ntmps160
  go_wp2_with (go_at_call 196;((with_reducible refine (zbw a b _).mono ?_);rintro e w2 ⟨rfl,rfl⟩;rw [HE.out]))
  go_ret
  exact ⟨by rw [HK.out];rfl,zx⟩
 have HE:=Za (show edB a b=0 by simp [edB,h])
 have HK:=Za (show chkE l a b=if seamB l a b then 0 else 30 by simp [chkE,h])
 obtain ⟨a0,a1,b0,b1⟩:=zd0 h
 clear h
 by_cases hn0:n=0
 ·subst hn0
  have HS:=Za (show seamB l a b=false by simp [seamB,HX.out.1])
  go_enter Tryz.func160,Tryz.ntmps160
  go_wp2_with (go_at_call 196;((with_reducible refine (zbw a b _).mono ?_);rintro e w2 ⟨rfl,rfl⟩;rw [HE.out]))
  go_ret
  exact ⟨by rw [HK.out,HS.out];rfl,zx⟩
 obtain ⟨A1,o1,rfl,hb1,hc⟩:=Prs.all HX.out (by omega)
 have HC:=Za hc
 have hne:((n:Int)==0)=false:=by rw [ZC];omega
 obtain ⟨g1,g2⟩:=hc 0 (by omega)
 obtain ⟨g3,g4⟩:=hc (n-1) (by omega)
 clear hc
 rw [Nat.zero_mul,Nat.add_zero] at g1 g2
 by_cases hp:l.getD 0 (0,0)=(0,0)
 case neg =>
  have HS:=Za (show seamB l a b=false by simp only [seamB,ZU hp,Bool.and_false,Bool.false_and])
  generalize l.getD 0 (0,0)=p0 at *
  obtain ⟨x,y⟩:=p0
  have af:¬(x=0/\y=0):=by simpa using hp
  clear hp
  go_enter Tryz.func160,Tryz.ntmps160
  go_wp2_with (go_at_call 196;((with_reducible refine (zbw a b _).mono ?_);rintro e w2 ⟨rfl,rfl⟩;rw [HE.out]))
  go_ret
  exact ⟨by rw [HK.out,HS.out];rfl,zx⟩
 have HP:=Za hp
 rw [hp] at g1 g2
 clear hp
 have ac:=HX.out.1
 by_cases hz:l.getD (n-1) (0,0)=(a-1,b-1)
 case neg =>
  have HS:=Za (show seamB l a b=false by
   have:¬l.getD (l.length-1) (0,0)=(a-1,b-1):=by rw [ac];exact hz
   simp only [seamB,ZU this,Bool.and_false,Bool.false_and])
  clear ac
  generalize l.getD (n-1) (0,0)=p0 at *
  obtain ⟨x,y⟩:=p0
  have af:¬(x=a-1/\y=b-1):=by simpa using hz
  clear hz
  go_enter Tryz.func160,Tryz.ntmps160
  go_wp2_with (go_at_call 196;((with_reducible refine (zbw a b _).mono ?_);rintro e w2 ⟨rfl,rfl⟩;rw [HE.out]))
  ·go_ret
   exact ⟨by rw [HK.out,HS.out];rfl,zx⟩
  ·exfalso
   have h9:(!x==a-1)=false/\(!y==b-1)=false:=by assumption
   simp at h9
   exact af h9
 have HZ:=Za hz
 rw [hz] at g3 g4
 have ae:=Za ac
 clear hz ac
 go_enter Tryz.func160,Tryz.ntmps160
 go_wp2_with (go_at_call 196;((with_reducible refine (zbw a b _).mono ?_);rintro e w2 ⟨rfl,rfl⟩;rw [HE.out]))
 clear g1 g2 g3 g4
 go_loopw [8] (fun i wr=>∃k:Nat,1<=k/\k<=n/\i = .int .i64 k/\Hid (∀j,1<=j->j<k->stepAt l j=true)/\Hid (Ext w wr)) (fun i _=>n-(intOf i).toNat)
 case atStart=>exact ⟨1,by omega,by omega,rfl,fun j h1 h2=>absurd h2 (by omega),(Ze _).alloc _⟩
 case round =>
  obtain ⟨k,ag,hk,rfl,ab,aa⟩:=hrel
  by_cases hlt:k<n
  ·obtain ⟨k,rfl⟩:∃m,k=m+1:=⟨k-1,by omega⟩
   obtain ⟨g1,g2⟩:=HC.out k (by omega)
   obtain ⟨g3,g4⟩:=HC.out (k+1) hlt
   have c1:=(Zl (p:=⟨A1,o1+k*2,none⟩) aa.out hb1).trans g1
   have c2:=(Zl (p:=⟨A1,o1+k*2+1,none⟩) aa.out hb1).trans g2
   have c3:=(Zl (p:=⟨A1,o1+(k+1)*2,none⟩) aa.out hb1).trans g3
   have c4:=(Zl (p:=⟨A1,o1+(k+1)*2+1,none⟩) aa.out hb1).trans g4
   clear g1 g2 g3 g4
   have hz1:=Zn wr _ c1
   have hu:=zk7 HP.out ab.out k (by omega)
   have ad:stepAt l (k+1)=stepB (l.getD k (0,0)) (l.getD (k+1) (0,0)):=rfl
   have i0:(0:Int)<=(k:Int):=by omega
   have i1:(k:Int)<(n:Int):=by omega
   have i2:(0:Int)<=(k:Int)+1:=by omega
   have i3:(k:Int)+1<(n:Int):=by omega
   have f1:=Zj (k:Int) (by omega)
   have f2:((k:Int)+1).toNat=k+1:=by omega
   cases hs:stepAt l (k+1)
   ·have HS:=Za (show seamB l a b=false from znD ag (by rw [ae.out];exact hlt) hs)
    rw [ad] at hs
    clear ad
    generalize l.getD k (0,0)=p at *
    generalize l.getD (k+1) (0,0)=q at *
    obtain ⟨px,py⟩:=p
    obtain ⟨qx,qy⟩:=q
    simp only [stepB,Bool.or_eq_false_iff,decide_eq_false_iff_not,Prod.mk.injEq] at hs
    obtain ⟨⟨s1,s2⟩,s3⟩:=hs
    replace s1:¬((qx==px+1)=true/\(qy==py)=true):=by simpa using s1
    replace s2:¬((qx==px)=true/\(qy==py+1)=true):=by simpa using s2
    replace s3:¬((qx==px+1)=true/\(qy==py+1)=true):=by simpa using s3
    obtain ⟨u0,u1,u2,u3⟩:=hu
    simp only at c1 c2 c3 c4 u0 u1 u2 u3
    go_wp2_with fail
    go_region_held3 (fun w'=>w'.cell? ⟨A1,o1+k*2,none⟩=some (.int .i64 px)/\w'.cell? ⟨A1,o1+k*2+1,none⟩=some (.int .i64 py)/\w'.cell? ⟨A1,o1+(k+1)*2,none⟩=some (.int .i64 qx)/\w'.cell? ⟨A1,o1+(k+1)*2+1,none⟩=some (.int .i64 qy)) (go_keep) (fail)
    have:=aa.out
    all_goals
     go_wp2
     all_goals first | (go_ret;exact ⟨by rw [HK.out,HS.out];rfl,zx⟩) | (exfalso;first | exact s1 (by assumption) | exact s2 (by assumption) | exact s3 (by assumption))
   ·have HA:=Za (show ∀j,1<=j->j<k+1+1->stepAt l j=true from fun j h1 h2=>by
     rcases ZX j (k+1) with e | e
     ·exact ab.out j h1 e
     ·obtain rfl:j=k+1:=by omega
      exact hs)
    rw [ad] at hs
    clear ad
    generalize l.getD k (0,0)=p at *
    generalize l.getD (k+1) (0,0)=q at *
    obtain ⟨px,py⟩:=p
    obtain ⟨qx,qy⟩:=q
    simp only [stepB,Bool.or_eq_true,Zy,Prod.mk.injEq] at hs
    obtain ⟨u0,u1,u2,u3⟩:=hu
    simp only at c1 c2 c3 c4 u0 u1 u2 u3
    have:=aa.out
    rcases hs with (⟨rfl,rfl⟩ | ⟨rfl,rfl⟩) | ⟨rfl,rfl⟩
    ·have n1:((qy:Int)+1==qy)=false:=by rw [ZC];omega
     have n2:((px:Int)+1==px)=false:=by rw [ZC];omega
     go_wp2_with fail
     go_region_held3 (fun w'=>w'.cell? ⟨A1,o1+k*2,none⟩=some (.int .i64 px)/\w'.cell? ⟨A1,o1+k*2+1,none⟩=some (.int .i64 qy)/\w'.cell? ⟨A1,o1+(k+1)*2,none⟩=some (.int .i64 (px+1))/\w'.cell? ⟨A1,o1+(k+1)*2+1,none⟩=some (.int .i64 qy)) (go_keep) (fail)
     all_goals
      go_wp2
      go_roundw
      case rel=>exact ⟨k+1+1,by omega,by omega,by go_num,HA,zx⟩
      case measure=>simp [intOf];omega
    ·have n1:((py:Int)+1==py)=false:=by rw [ZC];omega
     have n2:((qx:Int)+1==qx)=false:=by rw [ZC];omega
     go_wp2_with fail
     go_region_held3 (fun w'=>w'.cell? ⟨A1,o1+k*2,none⟩=some (.int .i64 qx)/\w'.cell? ⟨A1,o1+k*2+1,none⟩=some (.int .i64 py)/\w'.cell? ⟨A1,o1+(k+1)*2,none⟩=some (.int .i64 qx)/\w'.cell? ⟨A1,o1+(k+1)*2+1,none⟩=some (.int .i64 (py+1))) (go_keep) (fail)
     all_goals
      go_wp2
      go_roundw
      case rel=>exact ⟨k+1+1,by omega,by omega,by go_num,HA,zx⟩
      case measure=>simp [intOf];omega
    ·have n1:((py:Int)+1==py)=false:=by rw [ZC];omega
     have n2:((px:Int)+1==px)=false:=by rw [ZC];omega
     go_wp2_with fail
     go_region_held3 (fun w'=>w'.cell? ⟨A1,o1+k*2,none⟩=some (.int .i64 px)/\w'.cell? ⟨A1,o1+k*2+1,none⟩=some (.int .i64 py)/\w'.cell? ⟨A1,o1+(k+1)*2,none⟩=some (.int .i64 (px+1))/\w'.cell? ⟨A1,o1+(k+1)*2+1,none⟩=some (.int .i64 (py+1))) (go_keep) (fail)
     all_goals
      go_wp2
      go_roundw
      case rel=>exact ⟨k+1+1,by omega,by omega,by go_num,HA,zx⟩
      case measure=>simp [intOf];omega
  ·obtain rfl:k=n:=by omega
   have HS:=Za (show seamB l a b=true from zqg ae.out (by omega) HP.out HZ.out ab.out)
   have:=aa.out
   go_wp2
   go_ret
   exact ⟨by rw [HK.out,HS.out];rfl,zx⟩
end Go.Proofs.YtbjgpbojjhldaaaGreatDoor
/- A slice of zeros that a call makes. -/
namespace Go.Proofs.YtbjgpbojjhldaaaGreatDoor
set_option maxRecDepth 100000
open Go.RowKit
section
variable {P:Program} {ops:Array Oper} {rest:List Oper} {o:Oper} {a:Act} {K:Act->World->Prop} {Q:Exit->Act->World->Prop} {E:Prop} {wx:World}
theorem zf2 (T e:TypeId) {l:Operand} (n:Nat) (hop:o.op = .makeSlice T l l) (ht:P.underlying T=some (.slice e)) (hinfo:(P.info? e).map (fun i=>(i.zero,i.size,i.bytes))=some (some (.int .i64 0),1,8))
  (hl:a.eval l = .int .i64 (n:Int)) (hn:n<=1000000) (h:∀w1,RowV w1 wx.heap.size n (fun _ => .int .i64 0)->Hid (Ext wx w1)->K (a.put o.dst (.slice (some ⟨wx.heap.size,0,none⟩) n n)) w1):o.wp P a wx K Q:=by
 obtain ⟨i0,hi,ab,hz1,ac⟩:=info_parts hinfo
 obtain ⟨w',aa,r1,r2⟩:=run_make_full (P:=P) wx wx.heap.size T e i0 (.int .i64 0) 1 ht hi ab hz1 .i64 .i64 n (by rw [ac];omega) (by unfold maxLen;omega) (Zb _)
 unfold Oper.wp
 simp [execOp,hop,hl,aa,Result.andThen]
 exact h w' (RowV.made _ rfl r1) (But.ext_none r2)
theorem zcU (T e:TypeId) {l:Operand} (n:Nat) (hgd:o.guard=none) (hop:o.op = .makeSlice T l l) (ht:P.underlying T=some (.slice e)) (hinfo:(P.info? e).map (fun i=>(i.zero,i.size,i.bytes))=some (some (.int .i64 0),1,8))
  (hl:a.eval l = .int .i64 (n:Int)) (hn:n<=1000000) (h:∀w1,RowV w1 wx.heap.size n (fun _ => .int .i64 0)->Hid (Ext wx w1)->wpList P ops Q rest (a.put o.dst (.slice (some ⟨wx.heap.size,0,none⟩) n n)) w1):wpList P ops Q (o::rest) a wx :=
 wpList_plain hgd fun _ hK=>zf2 T e n hop ht hinfo hl hn fun w' h1 h2=>hK _ _ (h w' h1 h2)
end
theorem RowV.far {w:World} {g n:Nat} {f:Nat->Value} (h:RowV w g n f) {p:Addr} (hne:g≠p.block) (u:Value):RowV (w.setCell p u) g n f :=
 h.but ((But.refl (some p.block) w).own rfl u) (by simpa using hne)
def zeroRow (n:Nat):Array Value:=madeCells #[.int .i64 0] (n*1)
theorem zfG {P:Program} (T e:TypeId) (ht:P.underlying T=some (.slice e)) (hinfo:(P.info? e).map (fun i=>(i.zero,i.size,i.bytes))=some (some (.int .i64 0),1,8)) (n:Nat) (hn:n<=1000000) (w:World) :
  (Instr.makeSlice T (.int .i64 (n:Int)) (.int .i64 (n:Int))).run P w = .ok (.slice (some ⟨w.heap.size,0,none⟩) n n) (w.alloc (.cells (zeroRow n) e)):=by
 obtain ⟨i0,hi,aa,hz1,ab⟩:=info_parts hinfo
 have hr:=run_make (P:=P) w T e i0 (.int .i64 0) ht hi aa .i64 .i64 n n (by omega) (Int.le_refl _) (by rw [ab];omega) (by omega)
 simp only [Int.toNat_natCast,hz1] at hr
 exact hr
theorem RowV.zeros (w:World) (n:Nat) (t:TypeId):RowV (w.alloc (.cells (zeroRow n) t)) w.heap.size n (fun _ => .int .i64 0):=by
 refine ⟨by simp,fun j hj=>⟨?_,?_⟩⟩
 ·have h:(w.alloc (.cells (zeroRow n) t)).heap[w.heap.size]?=some (.cells (zeroRow n) t):=heap_alloc_new w _
  rw [cell_of_row _ w.heap.size j _ t (0,0) h]
  simp [zeroRow,madeCells,hj,Nat.mod_one]
 ·have h:(w.alloc (.cells (zeroRow n) t)).heap[w.heap.size]?=some (.cells (zeroRow n) t):=heap_alloc_new w _
  simp only [World.frozen?]
  rw [h]
  simp
end Go.Proofs.YtbjgpbojjhldaaaGreatDoor
/- The contract of Shares of seam. -/
namespace Go.Proofs.YtbjgpbojjhldaaaGreatDoor
set_option maxRecDepth 100000
open Go.RowKit
def ShE (w:World) (X Y:List Int) (c:Int) (e:Ending) (w':World):Prop :=
 ∃A cap B cap',e = .returned (.tuple #[.slice A X.length cap,.slice B Y.length cap',.int .i64 c])/\Ints w' A X.length X/\Ints w' B Y.length Y/\Ext w w'
theorem ShE.mk {w:World} {X Y:List Int} {c:Int} {e:Ending} {w':World} (A:Option Addr) (cap:Nat) (B:Option Addr) (cap':Nat)
  (h1:e = .returned (.tuple #[.slice A X.length cap,.slice B Y.length cap',.int .i64 c])) (h2:Ints w' A X.length X) (h3:Ints w' B Y.length Y) (h4:Ext w w'):ShE w X Y c e w':=⟨A,cap,B,cap',h1,h2,h3,h4⟩
theorem zr7 {l:List (Int×Int)} {a b:Int} (h:chkE l a b=0):(1<=a/\a<=1000/\1<=b/\b<=1000)/\seamB l a b=true:=by
 unfold chkE at h
 split at h
 ·rename_i h0
  split at h
  ·rename_i h1
   exact ⟨zd0 h0,h1⟩
  ·omega
 ·omega
theorem ziT (n c:Nat) (A:Option Addr) (l:List (Int×Int)) (a b:Int) (w:World) (hl:Vec shPair w A n l) (hm:n<=maxLen) :
  Calls Tryz.prog 119 #[.slice A n c,.int .i64 a,.int .i64 b] w (ShE w (shXL l a b) (shYL l a b) (chkE l a b)):=by
 have HX:=Za hl
 have ad:=zg0 n c A l a b w hl hm
 clear hl
 unfold maxLen at hm
 by_cases h:chkE l a b=0
 case neg =>
  have H1:=Za (show shXL l a b=[] by rw [shXL,if_neg h])
  have H2:=Za (show shYL l a b=[] by rw [shYL,if_neg h])
  have hb:(chkE l a b != 0)=true:=by simpa using h
  have ag:=Za ad
  clear h ad
  generalize chkE l a b=e0 at *
  go_enter Tryz.func119,Tryz.ntmps119
  go_wp2_with (go_at_call 160;((with_reducible refine (ag.out).mono ?_);rintro e w1 ⟨rfl,hq⟩))
  go_ret3
  exact ShE.mk none 0 none 0 (by rw [H1.out,H2.out];rfl) (by rw [H1.out];exact Ints.none_ _ _) (by rw [H2.out];exact Ints.none_ _ _) zx
 obtain ⟨⟨a0,a1,b0,b1⟩,hs⟩:=zr7 h
 obtain ⟨p,rfl⟩:=Int.eq_ofNat_of_zero_le (show 0<=a by omega)
 obtain ⟨q,rfl⟩:=Int.eq_ofNat_of_zero_le (show 0<=b by omega)
 have H1:=Za (show shXL l p q=(List.range p).map (shX l) by rw [shXL,if_pos h];rfl)
 have H2:=Za (show shYL l p q=(List.range q).map (shY l) by rw [shYL,if_pos h];rfl)
 have HS:=Za (zqh hs)
 rw [h] at ad
 have ag:=Za ad
 have H0:=Za h
 clear h ad hs
 have m1:=zfG (P:=Tryz.prog) 51 3 Tryz.underlying51 zek p (by omega)
 have m2:=zfG (P:=Tryz.prog) 51 3 Tryz.underlying51 zek q (by omega)
 go_enter Tryz.func119,Tryz.ntmps119
 go_wp2_with (go_at_call 160;((with_reducible refine (ag.out).mono ?_);rintro e w1 ⟨rfl,hq⟩))
 go_region
 all_goals clear m1 m2
 all_goals go_wp2_with fail
 ·go_loopw [27] (fun i wr=>∃k:Nat,k<=n/\i = .int .i64 k/\Hid (RowV wr (w1.heap.size) p (fun j => .int .i64 (shX (l.take k) j)))/\Hid (RowV wr (w1.heap.size+1) q (fun j => .int .i64 (shY (l.take k) j)))/\Hid (Ext w wr)) (fun i _=>n-(intOf i).toNat)
  case atStart=>exact ⟨0,by omega,rfl,((RowV.zeros _ _ _).ext (((Ze _).alloc _).drew)).congr (fun j _=>by simp [shX]),by
    have h:=((RowV.zeros (w1.alloc (.cells (zeroRow p) 3)) q 3).congr (f':=fun j => .int .i64 (shY (l.take 0) j)) (fun j _=>by simp [shY])).ext ((Ze _).drew)
    rw [show (w1.alloc (.cells (zeroRow p) 3)).heap.size=w1.heap.size+1 by simp] at h
    exact h,zx⟩
  case round =>
   obtain ⟨k,hk,rfl,ab,ac,aa⟩:=hrel
   by_cases hlt:k<n
   ·obtain ⟨A1,o1,rfl,hb1,hc1,af⟩:=Prs.at_ HX.out hlt
    have ah:=HX.out.1
    have c1:=(Zl (p:=⟨A1,o1+k*2,none⟩) aa.out hb1).trans hc1
    have c2:=(Zl (p:=⟨A1,o1+k*2+1,none⟩) aa.out hb1).trans af
    obtain ⟨u0,u1,u2,u3⟩:=HS.out k (by omega)
    have hX:=fun j=>zhT (l:=l) (k:=k) (by omega) j
    have hY:=fun j=>zhU (l:=l) (k:=k) (by omega) j
    have ae:=fun j=>znG (l.take k) j
    have ai:(l.take k).length<=k:=by rw [Zw];omega
    clear hc1 af ah
    generalize l.getD k (0,0)=xy at *
    obtain ⟨x,y⟩:=xy
    simp only at c1 c2 u0 u1 u2 u3 hX hY
    obtain ⟨x,rfl⟩:=Int.eq_ofNat_of_zero_le u0
    obtain ⟨y,rfl⟩:=Int.eq_ofNat_of_zero_le u2
    have hx:x<p:=by omega
    have hy:y<q:=by omega
    have cA:=ab.out.at_ hx
    have fA:=ab.out.free hx
    have zA:=ab.out.lt
    have cB:=ac.out.at_ hy
    have fB:=ac.out.free hy
    have zB:=ac.out.lt
    have bdA:=ae x
    have bdB:=ae y
    obtain ⟨bd1,bd2,_,_⟩:=bdA
    obtain ⟨_,_,bd3,bd4⟩:=bdB
    have nA:¬wr.heap.size=w1.heap.size:=by omega
    have nB:¬wr.heap.size=w1.heap.size+1:=by omega
    have R1:=Za (show RowV (((wr.setCell ⟨w1.heap.size,x,none⟩ (.int .i64 (shX (l.take k) x+1))).setCell ⟨w1.heap.size+1,y,none⟩ (.int .i64 (shY (l.take k) y+1))).alloc (.cells #[.int .i64 (x:Int),.int .i64 (y:Int)] 132)) (w1.heap.size) p (fun j => .int .i64 (shX (l.take (k+1)) j)) from
     (((ab.out.set hx _).far (by simp) _).ext ((Ze _).alloc _)).congr fun j _=>by
      rw [hX]
      by_cases e:j=x
      ·subst e;simp
      ·rw [if_neg e,if_neg (by omega)];simp)
    have R2:=Za (show RowV (((wr.setCell ⟨w1.heap.size,x,none⟩ (.int .i64 (shX (l.take k) x+1))).setCell ⟨w1.heap.size+1,y,none⟩ (.int .i64 (shY (l.take k) y+1))).alloc (.cells #[.int .i64 (x:Int),.int .i64 (y:Int)] 132)) (w1.heap.size+1) q (fun j => .int .i64 (shY (l.take (k+1)) j)) from
     (((ac.out.far (by simp) _).set hy _).ext ((Ze _).alloc _)).congr fun j _=>by
      rw [hY]
      by_cases e:j=y
      ·subst e;simp
      ·rw [if_neg e,if_neg (by omega)];simp)
    have aj:=Zt hq
    have R3:=Za (show Ext w (((wr.setCell ⟨w1.heap.size,x,none⟩ (.int .i64 (shX (l.take k) x+1))).setCell ⟨w1.heap.size+1,y,none⟩ (.int .i64 (shY (l.take k) y+1))).alloc (.cells #[.int .i64 (x:Int),.int .i64 (y:Int)] 132)) from
     ZD (ZJ (ZJ aa.out (by simp;omega) _) (by simp;omega) _) _)
    clear hX hY ae ab ac aa aj hq
    go_wp2
    go_roundw
    case rel=>exact ⟨k+1,by omega,by go_num,R1,R2,R3⟩
    case measure=>simp [intOf];omega
   ·obtain rfl:k=n:=by omega
    have e1:l.take k=l:=Zs (by rw [HX.out.1];omega)
    rw [e1] at ab ac
    have I1:=Za (Ints.of_row ab.out)
    have I2:=Za (Ints.of_row ac.out)
    clear e1 ab ac
    go_wp2
    go_ret3
    refine ShE.mk (some ⟨w1.heap.size,0,none⟩) p (some ⟨w1.heap.size+1,0,none⟩) q ?_ ?_ ?_ aa.out
    ·rw [H1.out,H2.out,H0.out];simp
    ·rw [H1.out];simpa using I1.out
    ·rw [H2.out];simpa using I2.out
 ·go_loopw [27] (fun i wr=>∃k:Nat,k<=n/\i = .int .i64 k/\Hid (RowV wr (w1.heap.size+1) p (fun j => .int .i64 (shX (l.take k) j)))/\Hid (RowV wr (w1.heap.size) q (fun j => .int .i64 (shY (l.take k) j)))/\Hid (Ext w wr)) (fun i _=>n-(intOf i).toNat)
  case atStart=>exact ⟨0,by omega,rfl,by
    have h:=((RowV.zeros (w1.alloc (.cells (zeroRow q) 3)) p 3).congr (f':=fun j => .int .i64 (shX (l.take 0) j)) (fun j _=>by simp [shX])).ext ((Ze _).drew)
    rw [show (w1.alloc (.cells (zeroRow q) 3)).heap.size=w1.heap.size+1 by simp] at h
    exact h,((RowV.zeros _ _ _).ext (((Ze _).alloc _).drew)).congr (fun j _=>by simp [shY]),zx⟩
  case round =>
   obtain ⟨k,hk,rfl,ab,ac,aa⟩:=hrel
   by_cases hlt:k<n
   ·obtain ⟨A1,o1,rfl,hb1,hc1,af⟩:=Prs.at_ HX.out hlt
    have ah:=HX.out.1
    have c1:=(Zl (p:=⟨A1,o1+k*2,none⟩) aa.out hb1).trans hc1
    have c2:=(Zl (p:=⟨A1,o1+k*2+1,none⟩) aa.out hb1).trans af
    obtain ⟨u0,u1,u2,u3⟩:=HS.out k (by omega)
    have hX:=fun j=>zhT (l:=l) (k:=k) (by omega) j
    have hY:=fun j=>zhU (l:=l) (k:=k) (by omega) j
    have ae:=fun j=>znG (l.take k) j
    have ai:(l.take k).length<=k:=by rw [Zw];omega
    clear hc1 af ah
    generalize l.getD k (0,0)=xy at *
    obtain ⟨x,y⟩:=xy
    simp only at c1 c2 u0 u1 u2 u3 hX hY
    obtain ⟨x,rfl⟩:=Int.eq_ofNat_of_zero_le u0
    obtain ⟨y,rfl⟩:=Int.eq_ofNat_of_zero_le u2
    have hx:x<p:=by omega
    have hy:y<q:=by omega
    have cA:=ab.out.at_ hx
    have fA:=ab.out.free hx
    have zA:=ab.out.lt
    have cB:=ac.out.at_ hy
    have fB:=ac.out.free hy
    have zB:=ac.out.lt
    have bdA:=ae x
    have bdB:=ae y
    obtain ⟨bd1,bd2,_,_⟩:=bdA
    obtain ⟨_,_,bd3,bd4⟩:=bdB
    have nA:¬wr.heap.size=w1.heap.size+1:=by omega
    have nB:¬wr.heap.size=w1.heap.size:=by omega
    have R1:=Za (show RowV (((wr.setCell ⟨w1.heap.size+1,x,none⟩ (.int .i64 (shX (l.take k) x+1))).setCell ⟨w1.heap.size,y,none⟩ (.int .i64 (shY (l.take k) y+1))).alloc (.cells #[.int .i64 (x:Int),.int .i64 (y:Int)] 132)) (w1.heap.size+1) p (fun j => .int .i64 (shX (l.take (k+1)) j)) from
     (((ab.out.set hx _).far (by simp) _).ext ((Ze _).alloc _)).congr fun j _=>by
      rw [hX]
      by_cases e:j=x
      ·subst e;simp
      ·rw [if_neg e,if_neg (by omega)];simp)
    have R2:=Za (show RowV (((wr.setCell ⟨w1.heap.size+1,x,none⟩ (.int .i64 (shX (l.take k) x+1))).setCell ⟨w1.heap.size,y,none⟩ (.int .i64 (shY (l.take k) y+1))).alloc (.cells #[.int .i64 (x:Int),.int .i64 (y:Int)] 132)) (w1.heap.size) q (fun j => .int .i64 (shY (l.take (k+1)) j)) from
     (((ac.out.far (by simp) _).set hy _).ext ((Ze _).alloc _)).congr fun j _=>by
      rw [hY]
      by_cases e:j=y
      ·subst e;simp
      ·rw [if_neg e,if_neg (by omega)];simp)
    have aj:=Zt hq
    have R3:=Za (show Ext w (((wr.setCell ⟨w1.heap.size+1,x,none⟩ (.int .i64 (shX (l.take k) x+1))).setCell ⟨w1.heap.size,y,none⟩ (.int .i64 (shY (l.take k) y+1))).alloc (.cells #[.int .i64 (x:Int),.int .i64 (y:Int)] 132)) from
     ZD (ZJ (ZJ aa.out (by simp;omega) _) (by simp;omega) _) _)
    clear hX hY ae ab ac aa aj hq
    go_wp2
    go_roundw
    case rel=>exact ⟨k+1,by omega,by go_num,R1,R2,R3⟩
    case measure=>simp [intOf];omega
   ·obtain rfl:k=n:=by omega
    have e1:l.take k=l:=Zs (by rw [HX.out.1];omega)
    rw [e1] at ab ac
    have I1:=Za (Ints.of_row ab.out)
    have I2:=Za (Ints.of_row ac.out)
    clear e1 ab ac
    go_wp2
    go_ret3
    refine ShE.mk (some ⟨w1.heap.size+1,0,none⟩) p (some ⟨w1.heap.size,0,none⟩) q ?_ ?_ ?_ aa.out
    ·rw [H1.out,H2.out,H0.out];simp
    ·rw [H1.out];simpa using I1.out
    ·rw [H2.out];simpa using I2.out
end Go.Proofs.YtbjgpbojjhldaaaGreatDoor
/- short.Turns. -/
namespace Go.Proofs.YtbjgpbojjhldaaaGreatDoor
set_option maxRecDepth 100000
open Go.RowKit
theorem zi0:(Tryz.prog.info? 3).map (fun i=>(i.zero,i.size,i.bytes))=some (some (.int .i64 0),1,8):=by kernel_rfl
theorem zbG (n lo hi:Int) (w:World) :
  Calls Tryz.prog 158 #[.int .i64 n,.int .i64 lo,.int .i64 hi] w fun e w'=>e = .returned (.bool (inR n lo hi))/\w=w':=by
 by_cases h:lo<=n
 ·go_enter Tryz.func158,Tryz.ntmps158
  go_wp2
  go_ret
  exact ⟨by simp [inR,h],rfl⟩
 ·go_enter Tryz.func158,Tryz.ntmps158
  go_wp2
  go_ret
  exact ⟨by rw [zj5 (by omega)];rfl,rfl⟩
def TrnR (n rise:Int) (w:World) (e:Ending) (w':World):Prop:=∃A c,e = .returned (.tuple #[.slice A (trnL n rise).length c,.int .i64 (trnE n rise)])/\Ints w' A (trnL n rise).length (trnL n rise)/\Ext w w'
theorem zlw {n rise:Int} {w w':World} (h:trnOk n rise=false) (hb:Ext w w'):TrnR n rise w (.returned (.tuple #[.slice none 0 0,.int .i64 2])) w':=by
 have h1:trnL n rise=[]:=by rw [trnL,h];rfl
 have h2:trnE n rise=2:=by rw [trnE,h];rfl
 rw [TrnR,h1,h2]
 exact ⟨none,0,rfl,Ints.none_ _ _,hb⟩
theorem zlA (n rise:Int) (hr : -9999999<=rise/\rise<=9999999) (hn : -9999999<=n/\n<=9999999) (w:World) :
  Calls Tryz.prog 117 #[.int .i64 n,.int .i64 rise] w (TrnR n rise w):=by
 have m1:∀(ts:Array TypeId) (t:TypeId) (W:World),(Builtin.min_ ts t #[.int .i64 n,.int .i64 50]).run Tryz.prog W = .ok (.int .i64 (min n 50)) W:=fun ts t W=>zdG ts t _ _
 cases h1:inR n 1 200
 ·have HB:=Za (show trnOk n rise=false by rw [trnOk,h1];rfl)
  go_enter Tryz.func117,Tryz.ntmps117
  go_wp2_with (go_at_call 158;((with_reducible refine (zbG _ _ _ _).mono ?_);rintro e w1 ⟨rfl,rfl⟩))
  go_ret2
  exact zlw HB.out zx
 ·cases h2:inR rise 0 (min n 50)
  ·have HB:=Za (show trnOk n rise=false by rw [trnOk,h1,h2];rfl)
   go_enter Tryz.func117,Tryz.ntmps117
   go_wp2_with (go_at_call 158;((with_reducible refine (zbG _ _ _ _).mono ?_);rintro e w1 ⟨rfl,rfl⟩))
   go_ret2
   exact zlw HB.out zx
  ·have hb1:=zaq h1
   have af:=zaq h2
   have ac:=Za (show trnOk n rise=true by rw [trnOk,h1,h2];rfl)
   obtain ⟨r,rfl⟩:=Int.eq_ofNat_of_zero_le af.1
   have hr50:r<=50:=by omega
   clear hr hn
   go_enter Tryz.func117,Tryz.ntmps117
   go_wp2_with (first
    | (go_at_call 158;((with_reducible refine (zbG _ _ _ _).mono ?_);rintro e w1 ⟨rfl,rfl⟩))
    | (at_make;(refine zcU 51 3 r (by rfl) (by rfl) Tryz.underlying51 zi0 (by rfl) (by omega) ?_;intro w2 ad ae)))
   have HR:=Za (show RowV w2 w.heap.size r (fun j => .int .i64 (if j<0 then trnV n r j else 0)) from ad.congr (fun j _=>by simp))
   clear ad m1 h1 h2
   go_loopw [22] (fun v wr=>∃k:Nat,v = .int .i64 k/\k<=r/\Hid (RowV wr w.heap.size r (fun j => .int .i64 (if j<k then trnV n r j else 0)))/\Hid (Ext w wr)) (fun v _=>r-(intOf v).toNat)
   case atStart=>exact ⟨0,rfl,by omega,HR,ae⟩
   case round =>
    obtain ⟨k,rfl,hk,aa,ab⟩:=hrel
    by_cases hlt:k<r
    ·have q0:(0:Int)<=(k:Int):=by omega
     have q1:(k:Int)<(r:Int):=by omega
     obtain ⟨p0,p1⟩:=zbd (a:=n) (b:=2*((r:Int)-(k:Int))-1) (A:=200) (B:=99) (by omega) (by omega) (by omega) (by omega)
     have hc:=aa.out.at_ hlt
     have hf:=aa.out.free hlt
     have hz:=aa.out.lt
     have HS:=Za ((aa.out.set hlt (.int .i64 (trnV n r k))).congr (f':=fun j => .int .i64 (if j<k+1 then trnV n r j else 0)) (fun j hj=>by
      by_cases e:j=k
      ·subst e;simp
      ·simp only [if_neg e]
       by_cases e2:j<k
       ·rw [if_pos e2,if_pos (by omega)]
       ·rw [if_neg e2,if_neg (by omega)]))
     have HX:=Za (ab.out.set (p:=⟨w.heap.size,k,none⟩) (Zb _) (.int .i64 (trnV n r k)))
     have HV:=Za (show (n*(2*((r:Int)-(k:Int))-1)+(r:Int)) / (2*(r:Int))=trnV n r k from rfl)
     go_wp2_with fail
     go_roundw
     case rel=>exact ⟨k+1,by go_num,by omega,by rw [HV.out];exact HS,by rw [HV.out];exact HX⟩
     case measure=>simp [intOf];omega
    ·obtain rfl:k=r:=by omega
     have HL:=Za (show trnL n k=(List.range k).map (fun j=>trnV n k j)/\trnE n k=0 from ⟨by rw [trnL,ac.out];simp,by rw [trnE,ac.out];rfl⟩)
     have HI:=Za (Ints.of_row (aa.out.congr (f':=fun j => .int .i64 (trnV n k j)) (fun j hj=>by rw [if_pos hj])))
     go_wp2_with fail
     go_ret2
     exact ⟨some ⟨w.heap.size,0,none⟩,k,by rw [HL.out.1,HL.out.2,List.length_map,List.length_range];rfl,by rw [HL.out.1,List.length_map,List.length_range];exact HI.out,ab.out.trans zx⟩
end Go.Proofs.YtbjgpbojjhldaaaGreatDoor
/- console.count. -/
namespace Go.Proofs.YtbjgpbojjhldaaaGreatDoor
set_option maxRecDepth 100000
open Go.RowKit
def AnsR (w:World) (a:Ans) (e:Ending) (w':World):Prop:=e = .returned (.tuple #[.string ⟨a.1.toArray⟩,.int .i64 a.2])/\Ext w w'
theorem zq2 {w w':World} {b:Nat} {o0 o1 o2:Nat} {v0 v1 v2:Value} (hx:Ext w w') (hb:b<w.heap.size)
  (c0:w.cell? ⟨b,o0,none⟩=some v0) (c1:w.cell? ⟨b,o1,none⟩=some v1) (c2:w.cell? ⟨b,o2,none⟩=some v2) :
  w'.cell? ⟨b,o0,none⟩=some v0/\w'.cell? ⟨b,o1,none⟩=some v1/\w'.cell? ⟨b,o2,none⟩=some v2 :=
 ⟨(Zl (p:=⟨b,o0,none⟩) hx hb).trans c0,(Zl (p:=⟨b,o1,none⟩) hx hb).trans c1,(Zl (p:=⟨b,o2,none⟩) hx hb).trans c2⟩
theorem zds {w w':World} {b:Nat} {o0 o1:Nat} {v0 v1:Value} (hx:Ext w w') (hb:b<w.heap.size)
  (c0:w.cell? ⟨b,o0,none⟩=some v0) (c1:w.cell? ⟨b,o1,none⟩=some v1) :
  w'.cell? ⟨b,o0,none⟩=some v0/\w'.cell? ⟨b,o1,none⟩=some v1 :=
 ⟨(Zl (p:=⟨b,o0,none⟩) hx hb).trans c0,(Zl (p:=⟨b,o1,none⟩) hx hb).trans c1⟩
theorem zaW {w:World} {b B o:Nat} {v v0 v1 v2:Value} (hb:b<B) (h:w.cell? ⟨b,o,none⟩=some v) :
  (((w.setCell ⟨B,0,none⟩ v0).setCell ⟨B,1,none⟩ v1).setCell ⟨B,2,none⟩ v2).cell? ⟨b,o,none⟩=some v:=by
 rw [Zg _ _ _ _ (fun h=>?_),Zg _ _ _ _ (fun h=>?_),Zg _ _ _ _ (fun h=>?_)]
 ·exact h
 all_goals (injection h with h1;omega)
theorem zdO (w:World) (u0 u1 u2:Value) (t:TypeId):(w.alloc (.cells #[u0,u1,u2] t)).cell? ⟨w.heap.size,0,none⟩=some u0/\(w.alloc (.cells #[u0,u1,u2] t)).cell? ⟨w.heap.size,1,none⟩=some u1/\(w.alloc (.cells #[u0,u1,u2] t)).cell? ⟨w.heap.size,2,none⟩=some u2:=by
 have h:(w.alloc (.cells #[u0,u1,u2] t)).heap[w.heap.size]?=some (.cells #[u0,u1,u2] t):=heap_alloc_new w _
 refine ⟨?_,?_,?_⟩ <;> rw [cell_of_row _ w.heap.size _ _ t (0,0) h] <;> rfl
theorem zdP {w w':World} {u0 u1 u2:Value} {t:TypeId} (h:Ext (w.alloc (.cells #[u0,u1,u2] t)).drew w'):w'.cell? ⟨w.heap.size,0,none⟩=some u0/\w'.cell? ⟨w.heap.size,1,none⟩=some u1/\w'.cell? ⟨w.heap.size,2,none⟩=some u2:=by
 obtain ⟨h0,h1,h2⟩:=zdO w u0 u1 u2 t
 have hx:Ext (w.alloc (.cells #[u0,u1,u2] t)) w':=Zm (ZR (Ze _)) h
 have hl:w.heap.size<(w.alloc (.cells #[u0,u1,u2] t)).heap.size:=by simp
 exact ⟨(Zl (p:=⟨w.heap.size,0,none⟩) hx hl).trans h0,(Zl (p:=⟨w.heap.size,1,none⟩) hx hl).trans h1,(Zl (p:=⟨w.heap.size,2,none⟩) hx hl).trans h2⟩
theorem zfT {w:World} {B:Nat} {z0 z1 z2 v0 v1 v2:Value} (h0:w.cell? ⟨B,0,none⟩=some z0) (h1:w.cell? ⟨B,1,none⟩=some z1) (h2:w.cell? ⟨B,2,none⟩=some z2) :
  (((w.setCell ⟨B,0,none⟩ v0).setCell ⟨B,1,none⟩ v1).setCell ⟨B,2,none⟩ v2).cell? ⟨B,0,none⟩=some v0/\(((w.setCell ⟨B,0,none⟩ v0).setCell ⟨B,1,none⟩ v1).setCell ⟨B,2,none⟩ v2).cell? ⟨B,1,none⟩=some v1/\(((w.setCell ⟨B,0,none⟩ v0).setCell ⟨B,1,none⟩ v1).setCell ⟨B,2,none⟩ v2).cell? ⟨B,2,none⟩=some v2:=by
 have n01:(⟨B,1,none⟩:Addr)≠⟨B,0,none⟩:=by simp
 have n02:(⟨B,2,none⟩:Addr)≠⟨B,0,none⟩:=by simp
 have n12:(⟨B,2,none⟩:Addr)≠⟨B,1,none⟩:=by simp
 have e0:(w.setCell ⟨B,0,none⟩ v0).cell? ⟨B,0,none⟩=some v0:=Zq w _ _ h0
 have e1:(w.setCell ⟨B,0,none⟩ v0).cell? ⟨B,1,none⟩=some z1:=by rw [Zg w _ _ _ n01.symm];exact h1
 have e2:(w.setCell ⟨B,0,none⟩ v0).cell? ⟨B,2,none⟩=some z2:=by rw [Zg w _ _ _ n02.symm];exact h2
 have d0:((w.setCell ⟨B,0,none⟩ v0).setCell ⟨B,1,none⟩ v1).cell? ⟨B,0,none⟩=some v0:=by rw [Zg _ _ _ _ n01];exact e0
 have d1:((w.setCell ⟨B,0,none⟩ v0).setCell ⟨B,1,none⟩ v1).cell? ⟨B,1,none⟩=some v1:=Zq _ _ _ e1
 have d2:((w.setCell ⟨B,0,none⟩ v0).setCell ⟨B,1,none⟩ v1).cell? ⟨B,2,none⟩=some z2:=by rw [Zg _ _ _ _ n12.symm];exact e2
 exact ⟨by rw [Zg _ _ _ _ n02];exact d0,by rw [Zg _ _ _ _ n12];exact d1,Zq _ _ _ d2⟩
theorem zdw (w:World) (r0 r1 r2:Int) (t:TypeId):Ints (w.alloc (.cells #[.int .i64 r0,.int .i64 r1,.int .i64 r2] t)) (some ⟨w.heap.size,0,none⟩) 3 [r0,r1,r2]:=by
 obtain ⟨h0,h1,h2⟩:=zdO w (.int .i64 r0) (.int .i64 r1) (.int .i64 r2) t
 refine ⟨rfl,fun _=>⟨w.heap.size,0,rfl,by simp,fun j hj=>?_⟩⟩
 match j,hj with
 | 0,_=>exact h0
 | 1,_=>exact h1
 | 2,_=>exact h2
theorem zZ7 {p:Prop} (h:p:=by
 go_wp2_with (first
  | (go_at_call 110;((with_reducible refine (zaE _ _ _ L HB.out.2 HBS.out _ (HGL.out.ext (HX5.out.trans zx)) (HI5.out.ext zx)).mono ?_);rintro e6 w6 ⟨rfl,hq6⟩;have HX6:=Za (HX5.out.trans (show Ext w5 w6 from zx));clear hq6)))
 go_ret2
 rw [HV.out]
 exact ⟨rfl,HX6.out.trans zx⟩):p:=h
theorem zh9 (n c:Nat) (A:Option Addr) (l:List Int) (w:World) (hg:Glob w) (hl:Ints w A n l) (hn:3=n) :
  Calls Tryz.prog 69 #[.string ⟨kLine.toArray⟩,.slice A n c] w (AnsR w (cntV_ kLine l)):=by
 subst hn
 have HGL:=Za hg
 obtain ⟨b,off,rfl,hb,hc⟩:=hl.2 (by omega)
 have c0:=hc 0 (by omega)
 have c1:=hc 1 (by omega)
 have c2:=hc 2 (by omega)
 simp only [Nat.add_zero] at c0
 have HV:=Za (show cntV_ kLine l=(listV (lineL (l.getD 0 0) (l.getD 1 0) (l.getD 2 0)),lnE (l.getD 0 0) (l.getD 1 0) (l.getD 2 0)) by rw [cntV_,if_pos rfl])
 obtain ⟨x0,hx0⟩:∃x,l.getD 0 0=x:=⟨_,rfl⟩
 rw [hx0] at c0 HV
 clear hx0
 obtain ⟨x1,hx1⟩:∃x,l.getD 1 0=x:=⟨_,rfl⟩
 rw [hx1] at c1 HV
 clear hx1
 obtain ⟨x2,hx2⟩:∃x,l.getD 2 0=x:=⟨_,rfl⟩
 rw [hx2] at c2 HV
 clear hx2
 have HB:=Za (zcz x0 x1 x2)
 have HF:=Za (fun w'=>ziV x0 x1 x2 w')
 obtain ⟨L,hL⟩:∃L,lineL x0 x1 x2=L:=⟨_,rfl⟩
 rw [hL] at HV HB HF
 have HBS:=Za (show ∀x∈L, -1000000000000<=x/\x<=1000000000000 from HB.out.1)
 obtain ⟨er,her⟩:∃e,lnE x0 x1 x2=e:=⟨_,rfl⟩
 rw [her] at HV HF
 clear hl hc hg hL her
 go_enter Tryz.func69,Tryz.ntmps69
 go_wp2_with fail
 go_region_held3 (fun w'=>w'.cell? ⟨b,off,none⟩=some (.int .i64 x0)/\w'.cell? ⟨b,off+1,none⟩=some (.int .i64 x1)/\w'.cell? ⟨b,off+2,none⟩=some (.int .i64 x2)) (go_keep)
  (first | (go_at_call 115;((with_reducible refine (HF.out _).mono ?_);rintro e5 w5 ⟨A5,cap5,rfl,aa,hq5⟩;have HX5:=Za (show Ext w w5 from zx);have HI5:=Za aa;obtain ⟨k0,k1,k2⟩:=zq2 HX5.out hb c0 c1 c2;clear hq5 aa)))
 exact zZ7
theorem zf8 (n c:Nat) (A:Option Addr) (l:List Int) (hs:∀x∈l, -9999999<=x/\x<=9999999) (w:World) (hg:Glob w) (hl:Ints w A n l) (hn:2=n) :
  Calls Tryz.prog 69 #[.string ⟨kShort.toArray⟩,.slice A n c] w (AnsR w (cntV_ kShort l)):=by
 subst hn
 have HGL:=Za hg
 have aa:=hl.1
 have b0 : -9999999<=l.getD 0 0/\l.getD 0 0<=9999999:=by rw [Zd,Zf (by omega)];exact hs _ (List.getElem_mem _)
 have b1 : -9999999<=l.getD 1 0/\l.getD 1 0<=9999999:=by rw [Zd,Zf (by omega)];exact hs _ (List.getElem_mem _)
 obtain ⟨b,off,rfl,hb,hc⟩:=hl.2 (by omega)
 have c0:=hc 0 (by omega)
 have c1:=hc 1 (by omega)
 simp only [Nat.add_zero] at c0
 have HV:=Za (show cntV_ kShort l=(listV (trnL (l.getD 0 0) (l.getD 1 0)),trnE (l.getD 0 0) (l.getD 1 0)) by rw [cntV_,if_neg (by decide),if_neg (by decide),if_pos rfl])
 obtain ⟨x0,hx0⟩:∃x,l.getD 0 0=x:=⟨_,rfl⟩
 rw [hx0] at c0 HV b0
 clear hx0
 obtain ⟨x1,hx1⟩:∃x,l.getD 1 0=x:=⟨_,rfl⟩
 rw [hx1] at c1 HV b1
 clear hx1
 have HB:=Za (zdQ x0 x1)
 have HF:=Za (show ∀w',Calls Tryz.prog 117 #[.int .i64 x0,.int .i64 x1] w' fun e w''=>∃A c,e = .returned (.tuple #[.slice A (trnL x0 x1).length c,.int .i64 (trnE x0 x1)])/\Ints w'' A (trnL x0 x1).length (trnL x0 x1)/\Ext w' w'' from fun w'=>zlA x0 x1 b1 b0 w')
 obtain ⟨L,hL⟩:∃L,trnL x0 x1=L:=⟨_,rfl⟩
 rw [hL] at HV HB HF
 have HBS:=Za (show ∀x∈L, -1000000000000<=x/\x<=1000000000000 from HB.out.1)
 obtain ⟨er,her⟩:∃e,trnE x0 x1=e:=⟨_,rfl⟩
 rw [her] at HV HF
 clear hl hc hg hL her hs aa
 go_enter Tryz.func69,Tryz.ntmps69
 go_wp2_with fail
 go_region_held3 (fun w'=>w'.cell? ⟨b,off,none⟩=some (.int .i64 x0)/\w'.cell? ⟨b,off+1,none⟩=some (.int .i64 x1)) (go_keep)
  (first | (go_at_call 117;((with_reducible refine (HF.out _).mono ?_);rintro e5 w5 ⟨A5,cap5,rfl,ab,hq5⟩;have HX5:=Za (show Ext w w5 from zx);have HI5:=Za ab;obtain ⟨k0,k1⟩:=zds HX5.out hb c0 c1;clear hq5 ab)))
 exact zZ7
theorem hl5 {w:World} {b o:Nat} {v:Value} (h:w.cell? ⟨b,o,none⟩=some v):b<w.heap.size:=by
 by_cases hb:b<w.heap.size
 ·exact hb
 ·rw [World.cell?,show w.heap[b]?=none by simp;omega] at h
  cases h
theorem ze9 (n c:Nat) (A:Option Addr) (l:List Int) (w:World) (hg:Glob w) (hl:Ints w A n l) (hn:2=n) :
  Calls Tryz.prog 69 #[.string ⟨kSpread.toArray⟩,.slice A n c] w (AnsR w (cntV_ kSpread l)):=by
 subst hn
 have HGL:=Za hg
 obtain ⟨b,off,rfl,hb,hc⟩:=hl.2 (by omega)
 have c0:=hc 0 (by omega)
 have c1:=hc 1 (by omega)
 simp only [Nat.add_zero] at c0
 have HV:=Za (show cntV_ kSpread l=(listV [(words (l.getD 0 0) (l.getD 1 0)).1,(words (l.getD 0 0) (l.getD 1 0)).2.1,(words (l.getD 0 0) (l.getD 1 0)).2.2],spE (l.getD 0 0) (l.getD 1 0)) by rw [cntV_,if_neg (by decide),if_pos rfl])
 obtain ⟨x0,hx0⟩:∃x,l.getD 0 0=x:=⟨_,rfl⟩
 rw [hx0] at c0 HV
 clear hx0
 obtain ⟨x1,hx1⟩:∃x,l.getD 1 0=x:=⟨_,rfl⟩
 rw [hx1] at c1 HV
 clear hx1
 have HB:=Za (show ∀x∈[(words x0 x1).1,(words x0 x1).2.1,(words x0 x1).2.2], -1000000000000<=x/\x<=1000000000000 from zdT x0 x1)
 have HF:=Za (fun w'=>zgZ x0 x1 w')
 obtain ⟨r,hr⟩:∃r,words x0 x1=r:=⟨_,rfl⟩
 rw [hr] at HV HB HF
 obtain ⟨r0,r1,r2⟩:=r
 simp only at HV HB HF
 obtain ⟨er,her⟩:∃e,spE x0 x1=e:=⟨_,rfl⟩
 rw [her] at HV HF
 clear hl hc hg hr her
 go_enter Tryz.func69,Tryz.ntmps69
 go_wp2_with fail
 go_region_held3 (fun w'=>w'.cell? ⟨b,off,none⟩=some (.int .i64 x0)/\w'.cell? ⟨b,off+1,none⟩=some (.int .i64 x1)) (first | go_keep | exact ⟨zaW (by omega) (by assumption),zaW (by omega) (by assumption)⟩)
  (first | (go_at_call 116;((with_reducible refine (HF.out _).mono ?_);rintro e5 w5 ⟨rfl,hq5⟩;have HX5:=Za (show Ext w w5 from zx);have hb5:b<w5.heap.size:=Zi hb (Zt HX5.out);(try have aa:=zdP hq5);have hf5:=hq5.facts;obtain ⟨k0,k1⟩:=zds HX5.out hb c0 c1;clear hq5)))
 ·obtain ⟨Wg,hWg⟩:∃W,w5.alloc (.cells #[.int .i64 r0,.int .i64 r1,.int .i64 r2] 168)=W:=⟨_,rfl⟩
  rw [hWg]
  have hlt:w5.heap.size<Wg.heap.size:=by rw [<-hWg];simp
  obtain ⟨b0,b1,b2⟩:=(show Wg.cell? ⟨w5.heap.size,0,none⟩=some (.int .i64 r0)/\Wg.cell? ⟨w5.heap.size,1,none⟩=some (.int .i64 r1)/\Wg.cell? ⟨w5.heap.size,2,none⟩=some (.int .i64 r2) from hWg ▸ zdO w5 _ _ _ _)
  have HXG:=Za (show Ext w Wg from hWg ▸ ZD HX5.out _)
  clear hWg k0 k1 hf5
  go_wp2_with (first
   | (go_at_call 110;((with_reducible refine (zaE 3 _ _ [r0,r1,r2] (by decide) HB.out _ (HGL.out.ext (HXG.out.trans zx)) ((zdw _ r0 r1 r2 _).ext zx)).mono ?_);rintro e6 w6 ⟨rfl,hq6⟩;have HX6:=Za (HXG.out.trans (show Ext Wg w6 from zx));clear hq6)))
  go_ret2
  rw [HV.out]
  exact ⟨rfl,HX6.out.trans zx⟩
 ·obtain ⟨Wg,hWg⟩:∃W,(((w5.setCell ⟨w.heap.size,0,none⟩ (.int .i64 r0)).setCell ⟨w.heap.size,1,none⟩ (.int .i64 r1)).setCell ⟨w.heap.size,2,none⟩ (.int .i64 r2))=W:=⟨_,rfl⟩
  rw [hWg]
  obtain ⟨b0,b1,b2⟩:=(show Wg.cell? ⟨w.heap.size,0,none⟩=some (.int .i64 r0)/\Wg.cell? ⟨w.heap.size,1,none⟩=some (.int .i64 r1)/\Wg.cell? ⟨w.heap.size,2,none⟩=some (.int .i64 r2) from hWg ▸ zfT aa.1 aa.2.1 aa.2.2)
  have hlt:=hl5 b0
  have HXG:=Za (show Ext w Wg from hWg ▸ ZJ (ZJ (ZJ HX5.out (Zb _) _) (Zb _) _) (Zb _) _)
  clear hWg k0 k1 aa hf5
  go_wp2_with (first
   | (go_at_call 110;((with_reducible refine (zaE 3 _ _ [r0,r1,r2] (by decide) HB.out _ (HGL.out.ext (HXG.out.trans zx)) ((zdw _ r0 r1 r2 _).ext zx)).mono ?_);rintro e6 w6 ⟨rfl,hq6⟩;have HX6:=Za (HXG.out.trans (show Ext Wg w6 from zx));clear hq6)))
  go_ret2
  rw [HV.out]
  exact ⟨rfl,HX6.out.trans zx⟩
theorem zpl (a b c:List UInt8):((⟨a.toArray⟩:ByteArray)++⟨b.toArray⟩++⟨c.toArray⟩)=⟨(a++b++c).toArray⟩:=by
 apply ByteArray.ext
 simp
theorem zh8 (n c:Nat) (A:Option Addr) (l:List Int) (w:World) (hg:Glob w) (hl:Ints w A n l) (hn:2=n) :
  Calls Tryz.prog 69 #[.string ⟨kJoin.toArray⟩,.slice A n c] w (AnsR w (cntV_ kJoin l)):=by
 subst hn
 have HGL:=Za hg
 obtain ⟨b,off,rfl,hb,hc⟩:=hl.2 (by omega)
 have c0:=hc 0 (by omega)
 have c1:=hc 1 (by omega)
 simp only [Nat.add_zero] at c0
 have HV:=Za (show cntV_ kJoin l=if edB (l.getD 0 0) (l.getD 1 0)≠0 then ([],edB (l.getD 0 0) (l.getD 1 0)) else (listV (shXL (joinL (l.getD 0 0) (l.getD 1 0)) (l.getD 0 0) (l.getD 1 0))++[32,47,32]++listV (shYL (joinL (l.getD 0 0) (l.getD 1 0)) (l.getD 0 0) (l.getD 1 0)),chkE (joinL (l.getD 0 0) (l.getD 1 0)) (l.getD 0 0) (l.getD 1 0)) by rw [cntV_,if_neg (by decide),if_neg (by decide),if_neg (by decide)])
 obtain ⟨x0,hx0⟩:∃x,l.getD 0 0=x:=⟨_,rfl⟩
 rw [hx0] at c0 HV
 clear hx0
 obtain ⟨x1,hx1⟩:∃x,l.getD 1 0=x:=⟨_,rfl⟩
 rw [hx1] at c1 HV
 clear hx1
 have HB:=Za (zdI x0 x1)
 have HJ:=Za (zfo x0 x1)
 have HF:=Za (show ∀w',Calls Tryz.prog 118 #[.int .i64 x0,.int .i64 x1] w' (PrsE w' (joinL x0 x1) (edB x0 x1)) from fun w'=>ziX x0 x1 w')
 obtain ⟨J,hJ⟩:∃J,joinL x0 x1=J:=⟨_,rfl⟩
 rw [hJ] at HV HB HF HJ
 have HS:=Za (show ∀w' A c,Vec shPair w' A J.length J->Calls Tryz.prog 119 #[.slice A J.length c,.int .i64 x0,.int .i64 x1] w' (ShE w' (shXL J x0 x1) (shYL J x0 x1) (chkE J x0 x1)) from fun w' A c h=>ziT J.length c A J x0 x1 w' h (by have:=HJ.out;unfold maxLen;omega))
 obtain ⟨e,he⟩:∃e,edB x0 x1=e:=⟨_,rfl⟩
 rw [he] at HV HF
 obtain ⟨X,hX⟩:∃X,shXL J x0 x1=X:=⟨_,rfl⟩
 obtain ⟨Y,hY⟩:∃Y,shYL J x0 x1=Y:=⟨_,rfl⟩
 obtain ⟨er,her⟩:∃e,chkE J x0 x1=e:=⟨_,rfl⟩
 rw [hX,hY,her] at HS HV
 rw [hX,hY] at HB
 have HX:=Za (show ∀x∈X, -1000000000000<=x/\x<=1000000000000 from HB.out.1.1)
 have ae:=Za (show X.length<=2000 from HB.out.1.2)
 have HY:=Za (show ∀x∈Y, -1000000000000<=x/\x<=1000000000000 from HB.out.2.1)
 have af:=Za (show Y.length<=2000 from HB.out.2.2)
 have hlx:(listV X).length<=30000:=by have h1:=zeJ HX.out;have h2:=ae.out;rw [listV];omega
 have hly:(listV Y).length<=30000:=by have h1:=zeJ HY.out;have h2:=af.out;rw [listV];omega
 have hs1:¬9223372036854775807<(listV X).length+3:=by omega
 have hs2:¬9223372036854775807<(listV X).length+3+(listV Y).length:=by omega
 clear hl hc hg hJ he hX hY her HB
 by_cases h0:e=0
 ·subst h0
  have ab:=Za (HV.out.trans (if_neg (fun h=>h rfl)))
  go_enter Tryz.func69,Tryz.ntmps69
  go_wp2_with fail
  go_region_held3 (fun w'=>w'.cell? ⟨b,off,none⟩=some (.int .i64 x0)/\w'.cell? ⟨b,off+1,none⟩=some (.int .i64 x1)) (go_keep)
   (first | (go_at_call 118;((with_reducible refine (HF.out _).mono ?_);rintro e5 w5 ⟨A5,cap5,rfl,aa,hq5⟩;have HX5:=Za (show Ext w w5 from zx);have HI5:=Za aa;obtain ⟨k0,k1⟩:=zds HX5.out hb c0 c1;have hb5:b<w5.heap.size:=Zi hb (Zt HX5.out);clear hq5 aa)))
  go_wp2_with fail
  go_region_held3 (fun w'=>w'.cell? ⟨b,off,none⟩=some (.int .i64 x0)/\w'.cell? ⟨b,off+1,none⟩=some (.int .i64 x1)) (go_keep)
   (first | (go_at_call 119;((with_reducible refine (HS.out _ _ _ (HI5.out.ext zx)).mono ?_);rintro e7 w7 ⟨A7,c7,B7,d7,rfl,ag,ah,al⟩;have ac:=Za (HX5.out.trans (show Ext w5 w7 from zx));have ai:=Za ag;have aj:=Za ah;obtain ⟨m0,m1⟩:=zds ac.out hb c0 c1;clear al ag ah)))
  go_wp2_with (first
   | (go_at_call 110;(first
    | ((with_reducible refine (zaE _ _ _ X ae.out HX.out _ (HGL.out.ext (ac.out.trans zx)) (ai.out.ext zx)).mono ?_);rintro e8 w8 ⟨rfl,am⟩;have ad:=Za (ac.out.trans (show Ext w7 w8 from zx));have ak:=Za (show Ext w7 w8 from zx);clear am)
    | ((with_reducible refine (zaE _ _ _ Y af.out HY.out _ (HGL.out.ext (ad.out.trans zx)) (aj.out.ext (ak.out.trans zx))).mono ?_);rintro e9 w9 ⟨rfl,ao⟩;have HX9:=Za (ad.out.trans (show Ext w8 w9 from zx));clear ao))))
  go_ret2
  rw [ab.out]
  exact ⟨congrArg (fun x=>Ending.returned (.tuple #[.string x,.int .i64 er])) (zpl (listV X) [32,47,32] (listV Y)),HX9.out.trans zx⟩
 ·have ab:=Za (HV.out.trans (if_pos h0))
  have h1:(e==0)=false:=by simpa using h0
  go_enter Tryz.func69,Tryz.ntmps69
  go_wp2_with fail
  go_region_held3 (fun w'=>w'.cell? ⟨b,off,none⟩=some (.int .i64 x0)/\w'.cell? ⟨b,off+1,none⟩=some (.int .i64 x1)) (go_keep)
   (first | (go_at_call 118;((with_reducible refine (HF.out _).mono ?_);rintro e5 w5 ⟨A5,cap5,rfl,aa,hq5⟩;have HX5:=Za (show Ext w w5 from zx);obtain ⟨k0,k1⟩:=zds HX5.out hb c0 c1;clear hq5 aa)))
  go_wp2_with fail
  go_ret2
  rw [ab.out]
  exact ⟨rfl,HX5.out.trans zx⟩
end Go.Proofs.YtbjgpbojjhldaaaGreatDoor
/- A phrase by its form,in plain Lean. -/
namespace Go.Proofs.YtbjgpbojjhldaaaGreatDoor
set_option maxRecDepth 100000
def frmB (k:Int) (p:Bool):List UInt8:=joinB 35 (segs k p)
theorem znp (x:List UInt8):∀(d v:List UInt8),(∀c∈d,isDg c=true)->rep1 x (d++v)=d++rep1 x v:=by
 intro d
 induction d with
 | nil=>intro v _;rfl
 | cons c d ih =>
  intro v h
  have hc:¬c=35:=by
   have:=h c (by simp)
   rintro rfl
   simp [isDg] at this
  rw [ZM,rep1,if_neg hc,ih v (fun y hy=>h y (by simp [hy]))]
  rfl
theorem zhN (x:List UInt8) (n:Nat) (v:List UInt8):rep1 x (decD n++v)=decD n++rep1 x v:=znp x _ v (zbo n)
theorem znq (x:List UInt8) (n:Nat):rep1 x (decD n)=decD n:=by
 have:=zhN x n []
 rwa [ZF,show rep1 x []=[] from rfl,ZF] at this
theorem zoE {s:St} {n:Nat} (h:okSt s=true) (hc:cntB s.k=true):rep1 (decD n) (frmB s.k s.p)=phW s n:=by
 obtain ⟨k,p,a,b⟩:=s
 have hk:=zaK h
 simp only at hk hc ⊢
 rcases zad hk with e | e | e | e | e | e | e | e | e | e <;> subst e <;> first | (exfalso;revert hc;decide) | skip
 all_goals cases p <;> simp [frmB,segs,joinB,rep1,phW,ilv,parW,cntB,tailW]
def filW (s:St):List UInt8:=rep1 (decD s.b.toNat) (rep1 (decD s.a.toNat) (frmB s.k s.p))
theorem zoF {s:St} {n:Nat} (h:okSt s=true) (hc:cntB s.k=false):filW s++(if 1<n then 32::(decD n++timesB) else [])=phW s n:=by
 obtain ⟨k,p,a,b⟩:=s
 have hk:=zaK h
 have ht:tailW ⟨k,p,a,b⟩ n=if 1<n then 32::(decD n++timesB) else []:=by simp [tailW,show cntB k=false from hc]
 unfold phW
 rw [ht]
 congr 1
 simp only at hk hc ⊢
 rcases zad hk with e | e | e | e | e | e | e | e | e | e <;> subst e <;> first | (exfalso;revert hc;decide) | skip
 all_goals cases p <;> simp [filW,frmB,segs,joinB,rep1,zhN,znq,ilv,parW,cntB]
theorem zgq {k:Int} (p:Bool) (hk:kindB k=true):(frmB k p).length<=40:=by
 rcases zad hk with e | e | e | e | e | e | e | e | e | e <;> subst e <;> cases p <;> decide
theorem zci (x:List UInt8):∀l,(rep1 x l).length<=l.length+x.length:=by
 intro l
 induction l with
 | nil=>simp [rep1]
 | cons c l ih =>
  rw [rep1]
  split
  ·simp;omega
  ·simp only [Zk];omega
end Go.Proofs.YtbjgpbojjhldaaaGreatDoor
/- words: the form of a phrase,and a phrase. -/
namespace Go.Proofs.YtbjgpbojjhldaaaGreatDoor
set_option maxRecDepth 100000
open Go.RowKit
theorem zlN (p:Bool) (w:World):Calls Tryz.prog 170 #[.bool p] w fun e w'=>e = .returned (.string ⟨(if p=true then [112,117,114,108] else [107,110,105,116]).toArray⟩)/\w'=w:=by
 cases p
 ·go_enter Tryz.func170,Tryz.ntmps170
  go_wp2
  go_ret
  exact ⟨rfl,rfl⟩
 ·go_enter Tryz.func170,Tryz.ntmps170
  go_wp2
  go_ret
  exact ⟨rfl,rfl⟩
theorem zZ2 {p:Prop} (h:p:=by
 go_enter Tryz.func128,Tryz.ntmps128
 go_wp2_with (first
  | (go_at_call 170;((with_reducible refine (zlN _ _).mono ?_);rintro e w1 ⟨rfl,rfl⟩)))
 go_ret2
 exact ⟨by first | rfl | decide,zx⟩):p:=h
theorem zn5 (w:World):Calls Tryz.prog 128 #[.int .u8 1,.bool false] w fun e w'=>e = .returned (.tuple #[.string ⟨#[107,110,105,116,32,35]⟩,.bool true])/\Ext w w':=by
 exact zZ2
theorem zn6 (w:World):Calls Tryz.prog 128 #[.int .u8 1,.bool true] w fun e w'=>e = .returned (.tuple #[.string ⟨#[112,117,114,108,32,35]⟩,.bool true])/\Ext w w':=by
 exact zZ2
theorem zn7 (w:World):Calls Tryz.prog 128 #[.int .u8 2,.bool false] w fun e w'=>e = .returned (.tuple #[.string ⟨#[121,97,114,110,32,111,118,101,114]⟩,.bool false])/\Ext w w':=by
 exact zZ2
theorem zn8 (w:World):Calls Tryz.prog 128 #[.int .u8 2,.bool true] w fun e w'=>e = .returned (.tuple #[.string ⟨#[121,97,114,110,32,111,118,101,114]⟩,.bool false])/\Ext w w':=by
 exact zZ2
theorem zn9 (w:World):Calls Tryz.prog 128 #[.int .u8 3,.bool false] w fun e w'=>e = .returned (.tuple #[.string ⟨#[107,110,105,116,32,35,32,116,111,103,101,116,104,101,114,32,40,102,105,114,115,116,32,111,110,32,116,111,112,41]⟩,.bool false])/\Ext w w':=by
 exact zZ2
theorem zoa (w:World):Calls Tryz.prog 128 #[.int .u8 3,.bool true] w fun e w'=>e = .returned (.tuple #[.string ⟨#[112,117,114,108,32,35,32,116,111,103,101,116,104,101,114,32,40,102,105,114,115,116,32,111,110,32,116,111,112,41]⟩,.bool false])/\Ext w w':=by
 exact zZ2
theorem zob (w:World):Calls Tryz.prog 128 #[.int .u8 4,.bool false] w fun e w'=>e = .returned (.tuple #[.string ⟨#[107,110,105,116,32,35,32,116,111,103,101,116,104,101,114]⟩,.bool false])/\Ext w w':=by
 exact zZ2
theorem zoc (w:World):Calls Tryz.prog 128 #[.int .u8 4,.bool true] w fun e w'=>e = .returned (.tuple #[.string ⟨#[112,117,114,108,32,35,32,116,111,103,101,116,104,101,114]⟩,.bool false])/\Ext w w':=by
 exact zZ2
theorem zod (w:World):Calls Tryz.prog 128 #[.int .u8 5,.bool false] w fun e w'=>e = .returned (.tuple #[.string ⟨#[109,97,107,101,32,35,32,111,117,116,32,111,102,32,49]⟩,.bool false])/\Ext w w':=by
 exact zZ2
theorem zoe (w:World):Calls Tryz.prog 128 #[.int .u8 5,.bool true] w fun e w'=>e = .returned (.tuple #[.string ⟨#[109,97,107,101,32,35,32,111,117,116,32,111,102,32,49,32,112,117,114,108,119,105,115,101]⟩,.bool false])/\Ext w w':=by
 exact zZ2
theorem zof (w:World):Calls Tryz.prog 128 #[.int .u8 6,.bool false] w fun e w'=>e = .returned (.tuple #[.string ⟨#[99,114,111,115,115,32,35,32,105,110,32,102,114,111,110,116,32,111,102,32,35]⟩,.bool false])/\Ext w w':=by
 exact zZ2
theorem zog (w:World):Calls Tryz.prog 128 #[.int .u8 6,.bool true] w fun e w'=>e = .returned (.tuple #[.string ⟨#[99,114,111,115,115,32,35,32,105,110,32,102,114,111,110,116,32,111,102,32,35,32,112,117,114,108,119,105,115,101]⟩,.bool false])/\Ext w w':=by
 exact zZ2
theorem zoh (w:World):Calls Tryz.prog 128 #[.int .u8 7,.bool false] w fun e w'=>e = .returned (.tuple #[.string ⟨#[99,114,111,115,115,32,35,32,98,101,104,105,110,100,32,35]⟩,.bool false])/\Ext w w':=by
 exact zZ2
theorem zoi (w:World):Calls Tryz.prog 128 #[.int .u8 7,.bool true] w fun e w'=>e = .returned (.tuple #[.string ⟨#[99,114,111,115,115,32,35,32,98,101,104,105,110,100,32,35,32,112,117,114,108,119,105,115,101]⟩,.bool false])/\Ext w w':=by
 exact zZ2
theorem zoj (w:World):Calls Tryz.prog 128 #[.int .u8 8,.bool false] w fun e w'=>e = .returned (.tuple #[.string ⟨#[115,108,105,112,32,35]⟩,.bool true])/\Ext w w':=by
 exact zZ2
theorem zok (w:World):Calls Tryz.prog 128 #[.int .u8 8,.bool true] w fun e w'=>e = .returned (.tuple #[.string ⟨#[115,108,105,112,32,35,32,119,105,116,104,32,121,97,114,110,32,105,110,32,102,114,111,110,116]⟩,.bool true])/\Ext w w':=by
 exact zZ2
theorem zol (w:World):Calls Tryz.prog 128 #[.int .u8 9,.bool false] w fun e w'=>e = .returned (.tuple #[.string ⟨#[99,97,115,116,32,111,110,32,35]⟩,.bool false])/\Ext w w':=by
 exact zZ2
theorem zom (w:World):Calls Tryz.prog 128 #[.int .u8 9,.bool true] w fun e w'=>e = .returned (.tuple #[.string ⟨#[99,97,115,116,32,111,110,32,35]⟩,.bool false])/\Ext w w':=by
 exact zZ2
theorem zlG (w:World):Calls Tryz.prog 128 #[.int .u8 10,.bool false] w fun e w'=>e = .returned (.tuple #[.string ⟨#[98,105,110,100,32,111,102,102,32,35]⟩,.bool false])/\Ext w w':=by
 exact zZ2
theorem zlH (w:World):Calls Tryz.prog 128 #[.int .u8 10,.bool true] w fun e w'=>e = .returned (.tuple #[.string ⟨#[98,105,110,100,32,111,102,102,32,35,32,112,117,114,108,119,105,115,101]⟩,.bool false])/\Ext w w':=by
 exact zZ2
theorem zfZ (k:Int) (p:Bool) (hk:kindB k=true) (w:World):Calls Tryz.prog 128 #[.int .u8 k,.bool p] w fun e w'=>e = .returned (.tuple #[.string ⟨(frmB k p).toArray⟩,.bool (cntB k)])/\Ext w w':=by
 rcases zad hk with e | e | e | e | e | e | e | e | e | e <;> subst e <;> cases p
 ·exact zn5 w
 ·exact zn6 w
 ·exact zn7 w
 ·exact zn8 w
 ·exact zn9 w
 ·exact zoa w
 ·exact zob w
 ·exact zoc w
 ·exact zod w
 ·exact zoe w
 ·exact zof w
 ·exact zog w
 ·exact zoh w
 ·exact zoi w
 ·exact zoj w
 ·exact zok w
 ·exact zol w
 ·exact zom w
 ·exact zlG w
 ·exact zlH w
end Go.Proofs.YtbjgpbojjhldaaaGreatDoor
