/- The chart of the chapter's first example. -/
import Derived.Test.YtkneghkbgingdaaGreatDoorK29
set_option maxHeartbeats 16000000
namespace Go.Proofs.YtkneghkbgingdaaGreatDoor
set_option maxRecDepth 100000
open Go.RowKit Go.ChangeShapes Go.WideShapes Go.Joins
theorem zcA {s:List UInt8} {l:List St} {w:World} (bk:Bool) (m:Nat) (h:parseL s=some l) (hm:l.length=m) :
  Calls Tryz.prog 56 #[.bool bk,.string ⟨s.toArray⟩] w fun e w'=>∃(A:Option Addr) (c:Nat),e = .returned (.agg #[.bool bk,.slice A m c])∧Ext w w'∧Vec shSt w' A m l∧(0<m→∀b off,A=some ⟨b,off,none⟩→w.heap.size≤b):=by
 have hs:=(zci.1 h).1
 obtain ⟨e1,e2⟩:=zbS h
 have HP:=Za (fun (w':World)=>(show Calls Tryz.prog 88 #[.string ⟨s.toArray⟩] w' fun e w''=>∃(A:Option Addr) (c:Nat),e = .returned (.tuple #[.slice A m c,.int .i64 0])∧Ext w' w''∧Vec shSt w'' A m l∧(0<m→∀b off,A=some ⟨b,off,none⟩→w'.heap.size≤b) from by
  refine (zhP s (by omega) w').mono ?_
  rintro e w9 ⟨v,rfl,h1,h2⟩
  rw [e2] at h1
  rw [e1]
  obtain ⟨A,c,rfl,h3,h4⟩:=zac h1
  rw [hm] at h3 h4 ⊢
  exact ⟨A,c,rfl,h2,h3,h4⟩))
 clear h hm hs e1 e2
 go_enter Tryz.func56,Tryz.ntmps56
 go_wp2_with (first
  | (go_at_call 88;((with_reducible refine (HP.out _).mono ?_);rintro e w1 ⟨A1,c1,rfl,hq1,hv1,hk1⟩;have HV1:=Za (And.intro hv1 hk1);clear hv1 hk1;have HQ1:=Za hq1;have x0:w1.cell? ⟨w.heap.size,0,none⟩=some (.bool false):=(hq1.facts.1 _ _ (by simp)).trans (by simp [go_sem]);have x1:w1.cell? ⟨w.heap.size,1,none⟩=some (.slice none 0 0):=(hq1.facts.1 _ _ (by simp)).trans (by simp [go_sem]);have z0:w1.frozen? ⟨w.heap.size,0,none⟩=false:=(hq1.facts.2.1 _ _ (by simp)).trans (by simp [go_sem]);have z1:w1.frozen? ⟨w.heap.size,1,none⟩=false:=(hq1.facts.2.1 _ _ (by simp)).trans (by simp [go_sem]);have xz:w.heap.size<w1.heap.size:=hq1.facts.2.2 _ (by simp))))
 obtain ⟨k0,k1⟩:=zar (v0 := .bool bk) (v1 := .slice A1 m c1) x0 x1
 have hx:Ext w ((w1.setCell ⟨w.heap.size,0,none⟩ (.bool bk)).setCell ⟨w.heap.size,1,none⟩ (.slice A1 m c1)):=Zi (Zi (((Zd w).alloc _).trans HQ1.out) (by simp) _) (by simp) _
 refine bodyPost_ret (v := .agg #[.bool bk,.slice A1 m c1]) (by simp [results,Tryz.f56,go_sem,k0,k1]) rfl ⟨A1,c1,rfl,hx,?_,fun hm b off e=>?_⟩
 ·refine HV1.out.1.keepK (K:=fun b=>w.heap.size<b) (fun hm b off e=>?_) (by simp) (fun b _ hk o=>?_)
  ·have:=HV1.out.2 hm b off e
   simp at this
   omega
  ·rw [Zj _ _ _ _ (by intro e;simp at e <;> omega),Zj _ _ _ _ (by intro e;simp at e <;> omega)]
 ·have:=HV1.out.2 hm b off e
  simp at this
  omega
theorem zn9:Bytes exF:=zbN (by decide)
theorem zmj:Bytes exP5:=zbN (by decide)
theorem zns:Bytes exK5:=zbN (by decide)
def gvX (A1 A2 A3 A4 A5 A6:Option Addr) (c1 c2 c3 c4 c5 c6:Nat):List Raw:=[⟨false,A1,5,c1⟩,⟨true,A2,5,c2⟩,⟨false,A3,5,c3⟩,⟨true,A4,5,c4⟩,⟨false,A5,5,c5⟩,⟨true,A6,5,c6⟩]
theorem zcz (w:World):Calls Tryz.prog 27 #[] w fun e w'=>∃(A:Option Addr),e = .returned (.agg #[.int .i64 4,.slice A 6 6])∧Ext w w'∧Rws w' (fun b=>w.heap.size≤b) A 6 gvR:=by
 go_enter Tryz.func27,Tryz.ntmps27
 go_wp2_with (go_at_call 56;(first
  | ((fail_if_success (have h0:=T1.out));(with_reducible refine (zcA false 5 zoa rfl).mono ?_);rintro e w1 ⟨A1,c1,rfl,hq1,hv1,hk1⟩;have hb1:Ext (w.alloc (.cells #[.int .i64 0,.slice none 0 0] 24)) w1:=hq1;have HB1:=Za hb1;have HV1:=Za (And.intro hv1 hk1);have HQ1:=Za hq1;have T1:=Za trivial;clear hv1 hk1)
  | ((have h0:=T1.out);(fail_if_success (have h0:=T2.out));(with_reducible refine (zcA true 5 zmk rfl).mono ?_);rintro e w2 ⟨A2,c2,rfl,hq2,hv2,hk2⟩;have hb2:Ext (w.alloc (.cells #[.int .i64 0,.slice none 0 0] 24)) w2:=HB1.out.trans hq2;have HB2:=Za hb2;have HV2:=Za (And.intro hv2 hk2);have HQ2:=Za hq2;have T2:=Za trivial;clear hv2 hk2)
  | ((have h0:=T2.out);(fail_if_success (have h0:=T3.out));(with_reducible refine (zcA false 5 znt rfl).mono ?_);rintro e w3 ⟨A3,c3,rfl,hq3,hv3,hk3⟩;have hb3:Ext (w.alloc (.cells #[.int .i64 0,.slice none 0 0] 24)) w3:=HB2.out.trans hq3;have HB3:=Za hb3;have HV3:=Za (And.intro hv3 hk3);have HQ3:=Za hq3;have T3:=Za trivial;clear hv3 hk3)
  | ((have h0:=T3.out);(fail_if_success (have h0:=T4.out));(with_reducible refine (zcA true 5 zmk rfl).mono ?_);rintro e w4 ⟨A4,c4,rfl,hq4,hv4,hk4⟩;have hb4:Ext (w.alloc (.cells #[.int .i64 0,.slice none 0 0] 24)) w4:=HB3.out.trans hq4;have HB4:=Za hb4;have HV4:=Za (And.intro hv4 hk4);have HQ4:=Za hq4;have T4:=Za trivial;clear hv4 hk4)
  | ((have h0:=T4.out);(fail_if_success (have h0:=T5.out));(with_reducible refine (zcA false 5 znt rfl).mono ?_);rintro e w5 ⟨A5,c5,rfl,hq5,hv5,hk5⟩;have hb5:Ext (w.alloc (.cells #[.int .i64 0,.slice none 0 0] 24)) w5:=HB4.out.trans hq5;have HB5:=Za hb5;have HV5:=Za (And.intro hv5 hk5);have HQ5:=Za hq5;have T5:=Za trivial;clear hv5 hk5)
  | ((have h0:=T5.out);(fail_if_success (have h0:=T6.out));(with_reducible refine (zcA true 5 zmk rfl).mono ?_);rintro e w6 ⟨A6,c6,rfl,hq6,hv6,hk6⟩;have hb6:Ext (w.alloc (.cells #[.int .i64 0,.slice none 0 0] 24)) w6:=HB5.out.trans hq6;have HB6:=Za hb6;have HV6:=Za (And.intro hv6 hk6);have HQ6:=Za hq6;have T6:=Za trivial;clear hv6 hk6;have x0:w6.cell? ⟨w.heap.size,0,none⟩=some (.int .i64 0):=(hb6.facts.1 _ _ (by simp)).trans (by simp [go_sem]);have x1:w6.cell? ⟨w.heap.size,1,none⟩=some (.slice none 0 0):=(hb6.facts.1 _ _ (by simp)).trans (by simp [go_sem]);have z0:w6.frozen? ⟨w.heap.size,0,none⟩=false:=(hb6.facts.2.1 _ _ (by simp)).trans (by simp [go_sem]);have z1:w6.frozen? ⟨w.heap.size,1,none⟩=false:=(hb6.facts.2.1 _ _ (by simp)).trans (by simp [go_sem]);have xz:w.heap.size<w6.heap.size:=hb6.facts.2.2 _ (by simp);have xn:¬w6.heap.size=w.heap.size:=(by omega))))
 obtain ⟨k0,k1⟩:=zar (v0 := .int .i64 4) (v1 := .slice (some ⟨w6.heap.size,0,none⟩) 6 6) x0 x1
 obtain ⟨Wq,hWq⟩:∃W,(w6.setCell ⟨w.heap.size,0,none⟩ (.int .i64 4)).setCell ⟨w.heap.size,1,none⟩ (.slice (some ⟨w6.heap.size,0,none⟩) 6 6)=W:=⟨_,rfl⟩
 have hz:Wq.heap.size=w6.heap.size:=by rw [←hWq];simp
 have hc:∀b,w.heap.size+1≤b→∀o,Wq.cell? ⟨b,o,none⟩=w6.cell? ⟨b,o,none⟩:=fun b hb o=>by
  rw [←hWq,Zj _ _ _ _ (by intro e;injection e;omega),Zj _ _ _ _ (by intro e;injection e;omega)]
 have hx:Ext w (Wq.alloc (.cells #[.bool false,.slice A1 5 c1,.bool true,.slice A2 5 c2,.bool false,.slice A3 5 c3,.bool true,.slice A4 5 c4,.bool false,.slice A5 5 c5,.bool true,.slice A6 5 c6] 75)):=by
  rw [←hWq]
  exact Zl (Zi (Zi (((Zd w).alloc _).trans HB6.out) (Zf _) _) (Zf _) _) _
 have j0:Wq.cell? ⟨w.heap.size,0,none⟩=some (.int .i64 4):=by rw [←hWq,Zj _ _ _ _ (by simp)];exact k0
 have j1:Wq.cell? ⟨w.heap.size,1,none⟩=some (.slice (some ⟨w6.heap.size,0,none⟩) 6 6):=by rw [←hWq];exact k1
 have h0:Rws (Wq.alloc (.cells #[.bool false,.slice A1 5 c1,.bool true,.slice A2 5 c2,.bool false,.slice A3 5 c3,.bool true,.slice A4 5 c4,.bool false,.slice A5 5 c5,.bool true,.slice A6 5 c6] 75)) (fun b=>w.heap.size≤b) (some ⟨w6.heap.size,0,none⟩) 6 gvR:=by
  have hs:∀(v x:World) (A:Option Addr) (l:List St) (c:Nat) (bk:Bool) (o:Obj),Vec shSt x A 5 l∧(0<5→∀b off,A=some ⟨b,off,none⟩→v.heap.size≤b)→Bytes l→Ext (w.alloc (.cells #[.int .i64 0,.slice none 0 0] 24)) v→Ext x w6→RoAt (Wq.alloc o) (fun b=>w.heap.size≤b) ⟨bk,A,5,c⟩ ⟨bk,l⟩:=by
   intro v x A l c bk o h hb h1 h2
   have h4:w.heap.size+1≤v.heap.size:=by have h9:=Zr h1;simpa using h9
   have h5:RoAt w6 (fun b=>w.heap.size+1≤b) ⟨bk,A,5,c⟩ ⟨bk,l⟩:=⟨rfl,h.1.ext h2,(show 5≤maxLen by unfold maxLen;omega),hb,fun hn b off e=>ZB h4 (h.2 hn b off e)⟩
   exact h5.keep (by simp;omega) fun b hb hk=>⟨Nat.le_of_succ_le hk,fun o2=>(Zm (p:=⟨b,o2,none⟩) ((Zd Wq).alloc _) (by rw [hz];exact hb)).trans (hc b hk o2)⟩
  refine ⟨by unfold maxLen;omega,gvX A1 A2 A3 A4 A5 A6 c1 c2 c3 c4 c5 c6,Vec.lit2 hz.symm rfl rfl,fun _ b off e=>by cases e;omega,rfl,fun k hk=>?_⟩
  have r0:=Zd (w.alloc (.cells #[.int .i64 0,.slice none 0 0] 24))
  have hk6:k<6:=hk
  rcases k with _ | _ | _ | _ | _ | _ | k
  ·exact hs _ _ _ _ _ _ _ HV1.out zn9 r0 (HQ2.out.trans (HQ3.out.trans (HQ4.out.trans (HQ5.out.trans HQ6.out))))
  ·exact hs _ _ _ _ _ _ _ HV2.out zmj HB1.out (HQ3.out.trans (HQ4.out.trans (HQ5.out.trans HQ6.out)))
  ·exact hs _ _ _ _ _ _ _ HV3.out zns HB2.out (HQ4.out.trans (HQ5.out.trans HQ6.out))
  ·exact hs _ _ _ _ _ _ _ HV4.out zmj HB3.out (HQ5.out.trans HQ6.out)
  ·exact hs _ _ _ _ _ _ _ HV5.out zns HB4.out HQ6.out
  ·exact hs _ _ _ _ _ _ _ HV6.out zmj HB5.out (Zd _)
  ·omega
 rw [hWq]
 have xq:w.heap.size<Wq.heap.size:=by rw [hz];exact xz
 have l0:=(Zm (p:=⟨w.heap.size,0,none⟩) ((Zd Wq).alloc (.cells #[.bool false,.slice A1 5 c1,.bool true,.slice A2 5 c2,.bool false,.slice A3 5 c3,.bool true,.slice A4 5 c4,.bool false,.slice A5 5 c5,.bool true,.slice A6 5 c6] 75)) xq).trans j0
 have l1:=(Zm (p:=⟨w.heap.size,1,none⟩) ((Zd Wq).alloc (.cells #[.bool false,.slice A1 5 c1,.bool true,.slice A2 5 c2,.bool false,.slice A3 5 c3,.bool true,.slice A4 5 c4,.bool false,.slice A5 5 c5,.bool true,.slice A6 5 c6] 75)) xq).trans j1
 exact bodyPost_ret (v := .agg #[.int .i64 4,.slice (some ⟨w6.heap.size,0,none⟩) 6 6]) (by simp [results,Tryz.f27,go_sem,l0,l1]) rfl ⟨_,rfl,hx,h0⟩
end Go.Proofs.YtkneghkbgingdaaGreatDoor
/- Rows that a call has put together;their cells lie in blocks of the call's own (nothing is said of who may write them). -/
namespace Go.Proofs.YtkneghkbgingdaaGreatDoor
set_option maxRecDepth 100000
open Go.RowKit Go.ChangeShapes Go.WideShapes Go.Joins
abbrev Kq (B:Nat) (v:Value) (b:Nat):Prop:=B≤b∧some b≠v.ownBlock
def OwnQ (w:World) (B:Nat) (e:TypeId) (v:Value) (k:Nat) (l:List Ro):Prop:=∃xs:List Raw,OwnV shRaw w B e v k xs∧RosAt w (Kq B v) xs l∧∀x∈xs,x.n≤x.c
theorem OwnQ.nil (w:World) (B:Nat) (e:TypeId):OwnQ w B e (.slice none 0 0) 0 []:=⟨[],OwnV.nil _ _ _ _,⟨rfl,fun k hk=>by simp at hk⟩,fun x hx=>by cases hx⟩
theorem OwnQ.ext {w w':World} {B:Nat} {e:TypeId} {v:Value} {k:Nat} {l:List Ro} (h:OwnQ w B e v k l) (hb:Ext w w'):OwnQ w' B e v k l:=by
 obtain ⟨xs,h1,h2,h3⟩:=h
 exact ⟨xs,h1.ext hb,h2.keep (Zr hb) fun b hlt hk=>⟨hk,fun o=>Zm (p:=⟨b,o,none⟩) hb hlt⟩,h3⟩
theorem OwnQ.len {w:World} {B:Nat} {e:TypeId} {v:Value} {k:Nat} {l:List Ro} (h:OwnQ w B e v k l):l.length=k:=by
 obtain ⟨xs,h1,h2, -⟩:=h
 rw [←h2.1];exact h1.len
theorem OwnQ.blk {w:World} {B:Nat} {e:TypeId} {v:Value} {k:Nat} {l:List Ro} (h:OwnQ w B e v k l):∀b,v.ownBlock=some b→B≤b∧b<w.heap.size:=by
 obtain ⟨xs,h1,_⟩:=h
 exact h1.blk
theorem zbz {w:World} {B k:Nat} {e:TypeId} {v:Value} {l:List Ro} (h:OwnQ w B e v k l) (hk:k≤1000000):∃A c,v = .slice A k c∧Rws w (fun b=>B≤b) A k l:=by
 obtain ⟨xs,h1,h2, -⟩:=h
 exact zoL
theorem OwnQ.row {w:World} {B k:Nat} {e:TypeId} {A:Option Addr} {c:Nat} {l:List Ro} (h:OwnQ w B e (.slice A k c) k l) {j:Nat} (hj:j<k) :
  ∃(b off:Nat) (x:Raw),A=some ⟨b,off,none⟩∧b<w.heap.size∧w.cell? ⟨b,off+j*2,none⟩=some (.bool x.b)∧w.cell? ⟨b,off+j*2+1,none⟩=some (.slice x.A x.n x.c)∧RoAt w (Kq B (.slice A k c)) x (l.getD j ro0)∧x.n≤x.c:=by
 have hl:=h.len
 obtain ⟨xs,h1,h2,h3⟩:=h
 obtain ⟨A',c',e1,hv, -⟩:=zac h1
 cases e1
 obtain ⟨b,off,e2,hlt,hc⟩:=hv.2 (by omega)
 have hx:xs[j]?=some (xs.getD j raw0):=zgL (by rw [h2.1];omega)
 exact ⟨b,off,xs.getD j raw0,e2,hlt,hc j _ hx 0 _ rfl,hc j _ hx 1 _ rfl,h2.2 j (by omega),h3 _ (ZT hx)⟩
theorem zcl {w:World} {K:Nat→Prop} {x:Raw} {r:Ro} (h:RoAt w K x r):RosAt w K [x] [r]:=⟨rfl,fun k hk=>by
 obtain rfl:k=0:=by simp at hk;omega
 exact h⟩
section
variable {P:Program} {ops:Array Oper} {rest:List Oper} {o:Oper} {a:Act} {K:Act→World→Prop} {Q:Exit→Act→World→Prop} {E:Prop} {w wx:World}
theorem zeF (T e:TypeId) (z:Value) (bytes:Nat) {s x:Operand} {v:Value} {k m c:Nat} {A:Option Addr} {t r:List Ro} {ys:List Raw}
  (ho:o.op = .call { callee := .builtin .append,args:=#[s,x],argTypes:=#[T,T] })
  (ht:P.underlying T=some (.slice e)) (hinfo:(P.info? e).map (fun i=>(i.zero,i.size,i.bytes))=some (some z,shRaw.size,bytes)) (hzs:z.cells.size=2) (hby:bytes≤1000)
  (hs:a.eval s=v) (hx:a.eval x = .slice A m c) (hown:OwnQ wx w.heap.size e v k t) (hext:Ext w wx) (hv:Vec shRaw wx A m ys) (hr:RosAt wx (Kq w.heap.size v) ys r) (hcp:∀y∈ys,y.n≤y.c) (hk:k+m≤1000000)
  (h:∀v' w1,OwnQ w1 w.heap.size e v' (k+m) (t++r)→Hid (Ext w w1)→K (a.put o.dst v') w1):o.wp P a wx K Q:=by
 obtain ⟨xs,h1,h2,h5⟩:=hown
 refine zaP (news:=ys.flatMap shRaw.cells) T e z 2 bytes ho ht hinfo hzs (by omega) hby hs hx h1 hext (by rw [za1,hv.1];rfl) (fun hm=>by
   obtain ⟨b,off,hA,_,_⟩:=hv.2 hm
   subst hA
   exact ⟨_,rfl,hv.cells_at⟩) (fun u hu=>by obtain ⟨y,_,hy⟩:=ZL.1 hu;exact shRaw.one y u hy) hk ?_
 intro v' w1 g1 g2 g3 g4
 have hb:∀b,b<wx.heap.size→Kq w.heap.size v b→Kq w.heap.size v' b∧∀o,w1.cell? ⟨b,o,none⟩=wx.cell? ⟨b,o,none⟩:=fun b hlt hb=>by
  refine ⟨⟨hb.1,?_⟩,fun o=>But.cell (p:=⟨b,o,none⟩) g3 hlt hb.2⟩
  rcases g4 with g4 | g4
  ·rw [g4];exact hb.2
  ·rw [g4];intro e;cases e;omega
 refine h v' w1 ⟨xs++ys,?_,(h2.keep (But.size g3) hb).app (hr.keep (But.size g3) hb),fun x hx=>(Zw.1 hx).elim (h5 x) (hcp x)⟩ g2
 unfold OwnV
 rw [Z2]
 exact g1
theorem zav (T e:TypeId) (z:Value) (bytes:Nat) {s x:Operand} {v:Value} {k m c:Nat} {A:Option Addr} {t r:List Ro} {ys:List Raw} (hgd:o.guard=none)
  (ho:o.op = .call { callee := .builtin .append,args:=#[s,x],argTypes:=#[T,T] })
  (ht:P.underlying T=some (.slice e)) (hinfo:(P.info? e).map (fun i=>(i.zero,i.size,i.bytes))=some (some z,shRaw.size,bytes)) (hzs:z.cells.size=2) (hby:bytes≤1000)
  (hs:a.eval s=v) (hx:a.eval x = .slice A m c) (hown:OwnQ wx w.heap.size e v k t) (hext:Ext w wx) (hv:Vec shRaw wx A m ys) (hr:RosAt wx (Kq w.heap.size v) ys r) (hcp:∀y∈ys,y.n≤y.c) (hk:k+m≤1000000)
  (h:∀v' w1,OwnQ w1 w.heap.size e v' (k+m) (t++r)→Hid (Ext w w1)→wpList P ops Q rest (a.put o.dst v') w1):wpList P ops Q (o::rest) a wx :=
 wpList_plain hgd fun _ hK=>zeF T e z bytes ho ht hinfo hzs hby hs hx hown hext hv hr hcp hk fun v' w' h2 h3=>hK _ _ (h v' w' h2 h3)
end
end Go.Proofs.YtkneghkbgingdaaGreatDoor
/- Written instructions,plain: the rounds of Rows. -/
namespace Go.Proofs.YtkneghkbgingdaaGreatDoor
set_option maxRecDepth 100000
theorem zjr {l:List Ro} {f i:Nat} (h:l.length≤i):rowsT l f i=some []:=by
 cases f with
 | zero=>rfl
 | succ f=>rw [rowsT,if_pos h]
theorem zjq {l:List Ro} {f i k m:Nat} (hi:i<l.length) (ha:agnT l i=(k,m)) (hm:0<m):rowsT l (f+1) i=(rowsT l f (i+k*m)).map fun r=>agnB++decD k++32::decD m++10::r:=by
 rw [rowsT,if_neg (by omega),ha,if_pos hm]
theorem zdK {l:List Ro} {f i:Nat} (hi:i<l.length) (ha:(agnT l i).2=0):rowsT l (f+1) i=(lineT (l.getD i ro0)).bind fun s=>(rowsT l f (i+1)).map fun r=>s++10::r:=by
 rw [rowsT,if_neg (by omega),if_neg (by omega)]
def RowSt (l:List Ro) (i:Nat) (T:List UInt8):Prop:=∃f,l.length-i<f∧rowsT l (l.length+1) 0=(rowsT l f i).map (T ++ ·)
theorem RowSt.start (l:List Ro):RowSt l 0 []:=⟨l.length+1,by omega,by simp⟩
theorem RowSt.fin {l:List Ro} {i:Nat} {T:List UInt8} (h:RowSt l i T) (hi:l.length≤i):rowsT l (l.length+1) 0=some T:=by
 obtain ⟨f,h1,h2⟩:=h
 rw [h2,zjr hi]
 simp
theorem RowSt.agn {l:List Ro} {i k m:Nat} {T:List UInt8} (h:RowSt l i T) (hi:i<l.length) (ha:agnT l i=(k,m)) (hm:0<m) (hk:1≤k):RowSt l (i+k*m) (T++(agnB++decD k++32::decD m++[10])):=by
 obtain ⟨f,h1,h2⟩:=h
 obtain ⟨f,rfl⟩:∃g,f=g+1:=⟨f-1,by omega⟩
 have hp:0<k*m:=Nat.mul_pos (by omega) hm
 refine ⟨f,by omega,?_⟩
 rw [h2,zjq hi ha hm]
 cases rowsT l f (i+k*m) <;> simp
theorem RowSt.line {l:List Ro} {i:Nat} {T s:List UInt8} (h:RowSt l i T) (hi:i<l.length) (ha:(agnT l i).2=0) (hs:lineT (l.getD i ro0)=some s):RowSt l (i+1) (T++(s++[10])):=by
 obtain ⟨f,h1,h2⟩:=h
 obtain ⟨f,rfl⟩:∃g,f=g+1:=⟨f-1,by omega⟩
 refine ⟨f,by omega,?_⟩
 rw [h2,zdK hi ha,hs]
 cases rowsT l f (i+1) <;> simp
theorem RowSt.none {l:List Ro} {i:Nat} {T:List UInt8} (h:RowSt l i T) (hi:i<l.length) (ha:(agnT l i).2=0) (hs:lineT (l.getD i ro0)=none):rowsT l (l.length+1) 0=none:=by
 obtain ⟨f,h1,h2⟩:=h
 obtain ⟨f,rfl⟩:∃g,f=g+1:=⟨f-1,by omega⟩
 rw [h2,zdK hi ha,hs]
 rfl
theorem zl6 {l:List Ro} {i:Nat} (h:repT l i 1<2*repT l i 2):agnT l i=(2,repT l i 2)∧0<repT l i 2:=⟨by rw [agnT,if_pos h],by omega⟩
theorem zl5 {l:List Ro} {i:Nat} (h:¬repT l i 1<2*repT l i 2):agnT l i=(1,repT l i 1):=by rw [agnT,if_neg h]
theorem zlF {l:List Ro} {i k m:Nat} (hi:i≤l.length) (ha:agnT l i=(k,m)) (hm:0<m):i+k*m≤l.length∧1≤k∧k≤2∧m≤l.length:=by
 have hk:1≤(agnT l i).1∧(agnT l i).1≤2:=by unfold agnT;split <;> simp
 have hrp:(agnT l i).2=repT l i (agnT l i).1:=by unfold agnT;split <;> rfl
 rw [ha] at hk hrp
 simp only at hk hrp
 have hp:0<k*m:=Nat.mul_pos (by omega) hm
 have h1:=zjn (l:=l) (i:=i) (k:=k) (j:=k*m-1) hi (by rw [←hrp];omega)
 have h2:m≤k*m:=by
  calc m=1*m:=(Nat.one_mul m).symm
   _≤k*m:=Nat.mul_le_mul_right m hk.1
 exact ⟨by omega,hk.1,hk.2,by omega⟩
theorem zkP {r:Ro} {s:List UInt8} (h:lineT r=some s) (h1:tchkE (termsT r.cells)=0):s.length≤3006:=by
 unfold lineT at h
 split at h
 ·cases h
 ·rename_i h3
  cases h
  have hE:ttextE (termsT r.cells)=0:=Classical.not_not.1 h3
  have hlen:(wT (termsT r.cells)).length≤3000:=by
   rw [ttextE,if_neg (fun h9=>h9 h1)] at hE
   split at hE
   ·cases hE
   ·omega
  have hs:(sideB r.back).length≤5:=by cases r.back <;> decide
  rw [Zh]
  split
  ·simp;omega
  ·simp only [Zk];omega
theorem zlk {s:Int} {l:List Ro} {x:Int} (h:chkC s l=x) (h0:x≠0):rowsE s l=x∧rowsV s l=[]:=by
 have h1:rowsE s l=x:=by rw [rowsE,h,if_pos h0]
 exact ⟨h1,by rw [rowsV,h1,if_neg h0]⟩
theorem zjv {s:Int} {l:List Ro} (h:chkC s l=0) (hr:rowsT l (l.length+1) 0=none):rowsE s l=4∧rowsV s l=[]:=by
 have h1:rowsE s l=4:=by rw [rowsE,h,if_neg (by simp),hr]
 exact ⟨h1,by rw [rowsV,h1,if_neg (by decide)]⟩
theorem zju {s:Int} {l:List Ro} {T:List UInt8} (h:chkC s l=0) (hr:rowsT l (l.length+1) 0=some T) (hT:60000<T.length):rowsE s l=4∧rowsV s l=[]:=by
 have h1:rowsE s l=4:=by rw [rowsE,h,if_neg (by simp),hr];simp only;rw [if_pos hT]
 exact ⟨h1,by rw [rowsV,h1,if_neg (by decide)]⟩
theorem zjt {s:Int} {l:List Ro} {T:List UInt8} (h:chkC s l=0) (hr:rowsT l (l.length+1) 0=some T) (hT:¬60000<T.length):rowsE s l=0∧rowsV s l=T:=by
 have h1:rowsE s l=0:=by rw [rowsE,h,if_neg (by simp),hr];simp only;rw [if_neg hT]
 exact ⟨h1,by rw [rowsV,if_pos h1,hr];rfl⟩
end Go.Proofs.YtkneghkbgingdaaGreatDoor
/- Written instructions,plain: the rounds of the readers;what ReadRows returns. -/
namespace Go.Proofs.YtkneghkbgingdaaGreatDoor
set_option maxRecDepth 100000
section
variable {at_:List UInt8→Option Int} {acc l:List Ro} {s rest:List UInt8}
theorem zdQ (h:addP at_ acc s=some l):l.length≤100:=by
 unfold addP at h
 split at h
 ·simp only at h
  split at h
  ·cases h
  ·rename_i h1
   split at h
   ·rename_i h2
    cases h
    rw [zhj]
    have h3:(0:Int)≤numP at_ (cutA 32 (List.drop 6 s)).fst*numP at_ (cutA 32 (List.drop 6 s)).snd:=Int.mul_nonneg (by omega) (by omega)
    omega
   ·cases h
 ·split at h
  ·cases h
  ·split at h
   ·cases h
   ·split at h
    ·cases h
     rw [Zh,ZC]
     omega
    ·cases h
def RdSt (at_:List UInt8→Option Int) (s:List UInt8) (acc:List Ro) (rest:List UInt8):Prop:=∃f,rest.length≤f∧readP at_ (s.length+100) [] s=readP at_ f acc rest
theorem RdSt.start (at_:List UInt8→Option Int) (s:List UInt8):RdSt at_ s [] s:=⟨_,by omega,rfl⟩
theorem RdSt.fin (h:RdSt at_ s acc []):readP at_ (s.length+100) [] s=some acc:=by
 obtain ⟨f,h1,h2⟩:=h
 rw [h2]
 cases f <;> rfl
theorem RdSt.none (h:RdSt at_ s acc rest) (h0:rest≠[]) (ha:addP at_ acc (cutA 10 rest).1=none):readP at_ (s.length+100) [] s=none:=by
 obtain ⟨f,h1,h2⟩:=h
 cases hq:rest with
 | nil=>exact absurd hq h0
 | cons x q =>
  rw [hq] at h1 ha h2
  obtain ⟨f,rfl⟩:∃g,f=g+1:=⟨f-1,by simp at h1;omega⟩
  rw [h2,readP,ha]
  rfl
theorem RdSt.next (h:RdSt at_ s acc rest) (h0:rest≠[]) (ha:addP at_ acc (cutA 10 rest).1=some l):RdSt at_ s l (cutA 10 rest).2:=by
 obtain ⟨f,h1,h2⟩:=h
 have hc:=zlI 10 rest h0
 cases hq:rest with
 | nil=>exact absurd hq h0
 | cons x q =>
  rw [hq] at h1 ha h2 hc
  obtain ⟨f,rfl⟩:∃g,f=g+1:=⟨f-1,by simp at h1;omega⟩
  refine ⟨f,by omega,?_⟩
  rw [h2,readP,ha]
  rfl
end
def rwS (at_:List UInt8→Option Int) (start:Int) (s:List UInt8):Int:=if (rdP at_ start s).isSome=true then start else 0
def rwL (at_:List UInt8→Option Int) (start:Int) (s:List UInt8):List Ro:=(rdP at_ start s).getD []
def rwE (at_:List UInt8→Option Int) (start:Int) (s:List UInt8):Int:=if (rdP at_ start s).isSome=true then 0 else 12
theorem zlb {at_:List UInt8→Option Int} {start:Int} {s:List UInt8} (h:rdP at_ start s=none):rwS at_ start s=0∧rwL at_ start s=[]∧rwE at_ start s=12:=by
 unfold rwS rwL rwE
 rw [h]
 exact ⟨rfl,rfl,rfl⟩
theorem ze7 {at_:List UInt8→Option Int} {start:Int} {s:List UInt8} {l:List Ro} (h:rdP at_ start s=some l):rwS at_ start s=start∧rwL at_ start s=l∧rwE at_ start s=0:=by
 unfold rwS rwL rwE
 rw [h]
 exact ⟨rfl,rfl,rfl⟩
theorem zk8 {at_:List UInt8→Option Int} {start:Int} {s:List UInt8} (h:60000<s.length):rdP at_ start s=none:=by rw [rdP,if_pos h]
theorem zmO {at_:List UInt8→Option Int} {start:Int} {s:List UInt8} (h:readP at_ (s.length+100) [] s=none):rdP at_ start s=none:=by
 unfold rdP
 rw [h]
 split <;> rfl
theorem zmP {at_:List UInt8→Option Int} {start:Int} {s:List UInt8} {l:List Ro} (h0:¬60000<s.length) (h:readP at_ (s.length+100) [] s=some l):rdP at_ start s=if rowsE start l=0∧rowsV start l=s then some l else none:=by
 rw [rdP,if_neg h0,h]
 rfl
end Go.Proofs.YtkneghkbgingdaaGreatDoor
/- The reader of terms in plain Lean: what is left is the end of what was there. -/
namespace Go.Proofs.YtkneghkbgingdaaGreatDoor
set_option maxRecDepth 100000
theorem zdO:∀s:List UInt8,(untilS s).2 <:+ s:=by
 intro s
 induction s with
 | nil=>exact List.suffix_refl _
 | cons x l ih =>
  rw [untilS]
  split
  ·exact List.suffix_refl _
  ·exact ih.trans (List.suffix_cons x l)
theorem zf4 {at_:List UInt8→Option Int} {c:St} {g:Tms} {s:List UInt8} {x:(Int×St×Tms)×List UInt8} (h:rdN at_ c g s=some x):x.2 <:+ s:=by
 unfold rdN at h
 split at h
 ·rename_i s'
  split at h
  ·cases h
  ·cases h
   exact (zdO s').trans (List.suffix_cons _ _)
 ·cases h
  exact List.suffix_refl _
theorem zjf (at_:List UInt8→Option Int):∀f,(∀d s x,rdT at_ f d s=some x→x.2 <:+ s)∧(∀d s x,rdL at_ f d s=some x→x.2 <:+ s∧x.1.cnt+x.2.length≤s.length+1):=by
 intro f
 induction f with
 | zero=>exact ⟨fun d s x h=>(by rw [rdT] at h;cases h),fun d s x h=>(by rw [rdL] at h;cases h)⟩
 | succ f ih =>
  refine ⟨fun d s x h=>?_,fun d s x h=>?_⟩
  ·unfold rdT at h
   split at h
   ·rename_i s1
    split at h
    ·cases h
    ·split at h
     ·rename_i g s2 h2
      have h3:=(ih.2 _ _ _ h2).1
      have h4:=zf4 h
      exact ((h4.trans (List.suffix_cons _ _)).trans h3).trans (List.suffix_cons _ _)
     ·cases h
   ·split at h
    ·exact (zf4 h).trans (zdO _)
    ·cases h
  ·rw [rdL] at h
   split at h
   ·cases h
   ·rename_i n c g s2 h2
    have h3:=ih.1 _ _ _ h2
    obtain ⟨y,hy,e⟩:=ZF.1 h
    subst e
    obtain ⟨h4,h5⟩:=ih.2 _ _ _ hy
    have h6:=h3.length_le
    simp only [Zk] at h6
    refine ⟨(h4.trans (List.suffix_cons _ _)).trans h3,?_⟩
    simp only [Tms.cnt]
    omega
   ·rename_i n c g s1 hne h2
    cases h
    have h3:=ih.1 _ _ _ h2
    have h6:=h3.length_le
    refine ⟨h3,?_⟩
    simp only [Tms.cnt]
    simp only at h6
    omega
end Go.Proofs.YtkneghkbgingdaaGreatDoor
/- The reader of terms in plain Lean: its steps by what is taken. -/
namespace Go.Proofs.YtkneghkbgingdaaGreatDoor
set_option maxRecDepth 100000
theorem zjc (at_:List UInt8→Option Int) (c:St) (g:Tms) (s:List UInt8):rdN at_ c g s=if hitB 42 s=true then (at_ (untilS (hitR 42 s)).1).map (fun n=>((n,c,g),(untilS (hitR 42 s)).2)) else some ((1,c,g),s):=by
 cases s with
 | nil=>rfl
 | cons y r =>
  by_cases h:y=42
  ·subst h
   rw [rdN]
   simp only [hitB,hitR,beq_self_eq_true,if_true]
   cases at_ (untilS r).1 <;> rfl
  ·have h1:hitB 42 (y::r)=false:=by simp [hitB,h]
   rw [h1,if_neg (by simp),rdN]
   intro s e
   cases e
   exact h rfl
theorem zjd (at_:List UInt8→Option Int) (f d:Nat) (s1:List UInt8):rdT at_ (f+1) d (40::s1)=if 8<d+1 then none else (rdL at_ f (d+1) s1).bind fun x=>if hitB 41 x.2=true then rdN at_ st0 x.1 (hitR 41 x.2) else none:=by
 rw [rdT]
 split
 ·rfl
 ·cases h:rdL at_ f (d+1) s1 with
  | none=>rfl
  | some x =>
   obtain ⟨g,r⟩:=x
   rw [ZA]
   cases r with
   | nil=>rfl
   | cons y r =>
    by_cases h:y=41
    ·subst h;simp [hitB,hitR]
    ·have h1:hitB 41 (y::r)=false:=by simp [hitB,h]
     simp only [h1]
     split
     ·rename_i e
      cases e
      exact absurd rfl h
     ·rfl
theorem zla (at_:List UInt8→Option Int) (f d:Nat) {s:List UInt8} (h:hitB 40 s=false):rdT at_ (f+1) d s=match parseL (untilS s).1 with
  | some [c]=>rdN at_ c .nil (untilS s).2
  | _=>none:=by
 rw [rdT]
 ·rfl
 ·intro s1 e
  rw [e] at h
  simp [hitB] at h
theorem zgW (at_:List UInt8→Option Int) (f d:Nat) (s:List UInt8):rdL at_ (f+1) d s=(rdT at_ f d s).bind fun x=>if hitB 32 x.2=true then (rdL at_ f d (hitR 32 x.2)).map (fun y=>(Tms.cons x.1.1 x.1.2.1 x.1.2.2 y.1,y.2)) else some (Tms.cons x.1.1 x.1.2.1 x.1.2.2 .nil,x.2):=by
 rw [rdL]
 cases h:rdT at_ f d s with
 | none=>rfl
 | some x =>
  obtain ⟨⟨n,c,g⟩,r⟩:=x
  rw [ZA]
  cases r with
  | nil=>rfl
  | cons y r =>
   by_cases h:y=32
   ·subst h;simp [hitB,hitR]
   ·have h1:hitB 32 (y::r)=false:=by simp [hitB,h]
    simp only [h1]
    split
    ·rename_i e;cases e
    ·rename_i e;cases e;exact absurd rfl h
    ·rename_i e;cases e;rfl
end Go.Proofs.YtkneghkbgingdaaGreatDoor
