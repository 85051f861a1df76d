/- Where the first of the four bytes " ()*" stands in a string of any bytes. -/
import Derived.Test.YtbjgpbojjhldaaaGreatDoorY10
import Derived.Test.YtbjgpbojjhldaaaGreatDoorY03
import Derived.Lib.OthersKept
import Derived.Laws.RangeAny
import Derived.Deep.LoopGhost
namespace Go.Proofs.YtbjgpbojjhldaaaGreatDoor
set_option maxHeartbeats 16000000
set_option maxRecDepth 100000
open Go.RowKit Go.ChangeShapes Go.WideShapes Go.Joins
theorem zcG (c:Nat) (h2:c<=1114111) (h3:c<55296∨57344<=c) (w:World) :
  Calls Tryz.prog 260 #[.int .i32 (c:Int)] w fun e w'=>e = .returned (.bool true)/\w'=w:=by
 have h0:(0:Int)<=(c:Int):=by omega
 rcases h3 with h | h
 ·have q1:(c:Int)<55296:=by omega
  clear h h2
  go_enter Tryz.func260,Tryz.ntmps260
  go_wp2_with fail
  go_ret
  exact ⟨rfl,rfl⟩
 ·have q1:¬((c:Int)<55296):=by omega
  have q2:(57343:Int)<(c:Int):=by omega
  have q3:(c:Int)<=1114111:=by omega
  clear h h2
  go_enter Tryz.func260,Tryz.ntmps260
  go_wp2_with fail
  go_ret
  exact ⟨rfl,rfl⟩
theorem zg2 {l:List UInt8} (hl:∀x∈l,x=32∨x=40∨x=41∨x=42) {b:UInt8} (hb:128<=b.toNat):Lib.indexByte l ((b.toNat:Int)).toNat.toUInt8 = -1:=by
 have e:((b.toNat:Int)).toNat.toUInt8=b:=by simp
 rw [e]
 induction l with
 | nil=>rfl
 | cons x l ih =>
  have h1:=hl x (by simp)
  have h2:(x==b)=false:=by
   rw [ZC]
   rintro rfl
   rcases h1 with rfl | rfl | rfl | rfl <;> exact absurd hb (by decide)
  have h3:=ih fun y hy=>hl y (by simp [hy])
  rw [Lib.indexByte,h2]
  simp [h3]
theorem znL (s:ByteArray) (hs:s=⟨#[32,40,41,42]⟩) (i:Nat) (hi:i<s.size):(s[i]'hi).toNat<128:=by
 subst hs
 have h4:i<4:=hi
 match i,h4 with
 | 0,_=>exact (show (32:UInt8).toNat<128 by decide)
 | 1,_=>exact (show (40:UInt8).toNat<128 by decide)
 | 2,_=>exact (show (41:UInt8).toNat<128 by decide)
 | 3,_=>exact (show (42:UInt8).toNat<128 by decide)
theorem ziP (s:ByteArray) (hs:s=⟨#[32,40,41,42]⟩) (w:World):Calls Tryz.prog 248 #[.string s,.int .i32 65533] w fun e w'=>e = .returned (.int .i64 (-1))/\Ext w w':=by
 have ah:=Za (znL s hs)
 clear hs
 go_enter Tryz.func248,Tryz.ntmps248
 go_wp2_with fail
 go_loopg [] s.size (fun g wx=>∃i:Nat,i+g=s.size/\wx.heap[w.heap.size]?=some (.stringIter s i)/\Below w.heap.size w wx)
 case atStart=>exact ⟨0,by omega,World.iter_heap w s 0,(Below.refl _ w).alloc (Zb _) _⟩
 case round =>
  obtain ⟨i,hig,ae,ad⟩:=hrel
  have HB:=Za ad
  by_cases hi:i<s.size
  ·obtain ⟨g,rfl⟩:∃g,gk=g+1:=⟨gk-1,by omega⟩
   obtain ⟨x,hx⟩:∃x:UInt8,s[i]'hi=x:=⟨_,rfl⟩
   have ac:x.toNat<128:=by rw [<-hx];exact ah.out i hi
   have af:=fun ty=>Lib.run_next_ascii_at (P:=Tryz.prog) wr w.heap.size s i ty ae hi (by rw [hx];exact ac)
   rw [hx] at af
   have ab:=Lib.iterAt_heap wr w.heap.size s i (i+1) ae
   have aa:=Lib.below_iterAt ad (k:=w.heap.size) (Zb _) s (i+1)
   obtain ⟨W,ag⟩:∃W,wr.iterAt w.heap.size s (i+1)=W:=⟨_,rfl⟩
   rw [ag] at af ab aa
   have q:((x.toNat:Int)==65533)=false:=by rw [ZC];omega
   have H2:=Za (And.intro ab aa)
   clear hx ag ab aa ad
   go_wp2_with fail
   go_roundg g
   case measure=>omega
   case rel=>exact ⟨i+1,by omega,H2.out.1,H2.out.2⟩
  ·have af:∀ty,(Instr.next (.pointer (some ⟨w.heap.size,0,none⟩)) true ty).run Tryz.prog wr=_:=fun ty=>Lib.run_next_end_at wr w.heap.size s i ty ae hi
   clear ad
   go_wp2_with fail
   go_ret
   exact ⟨rfl,HB.out⟩
theorem zry (r:Nat) (h1:128<=r) (h2:r<=1114111) (h3:r<55296∨57344<=r) (h4:r≠65533) (a b:UInt8) (hb:128<=b.toNat) (he:Utf8.encode (r:Int)=⟨#[a,b]⟩) (w:World) :
  Calls Tryz.prog 248 #[.string ⟨#[32,40,41,42]⟩,.int .i32 (r:Int)] w fun e w'=>e = .returned (.int .i64 (-1))/\Ext w w':=by
 have q0:(0:Int)<=(r:Int):=by omega
 have q1:¬((r:Int)<128):=by omega
 have q2:((r:Int)==65533)=false:=by rw [ZC];omega
 have q3:((40:Int) != (b.toNat:Int))=true:=by simp;omega
 have HI:=Za (zg2 (l:=[41,42]) (by simp) hb)
 have HV:=Za (fun w=>zcG r h2 h3 w)
 obtain ⟨C,hC⟩:∃C:ByteArray,(⟨#[32,40,41,42]⟩:ByteArray)=C:=⟨_,rfl⟩
 obtain ⟨E,hE⟩:∃E:ByteArray,(⟨#[a,b]⟩:ByteArray)=E:=⟨_,rfl⟩
 obtain ⟨T,hT⟩:∃T:ByteArray,(⟨#[41,42]⟩:ByteArray)=T:=⟨_,rfl⟩
 have c0:C.size=4:=by rw [<-hC];rfl
 have c1:∀h:1<C.size,C[1]'h=40:=by subst hC;exact fun _=>rfl
 have c2:C.extract 2 C.size=T:=by rw [<-hC,<-hT];rfl
 have d0:(1:Int)<(C.size:Int):=by omega
 have d1:(2:Int)<=(C.size:Int):=by omega
 have d2:2<=C.size:=by omega
 have iw:=Zj (2:Int) (by omega)
 have d3:¬((C.size:Int)<2):=by omega
 have e0:E.size=2:=by rw [<-hE];rfl
 have e1:∀h:1<E.size,E[1]'h=b:=by subst hE;exact fun _=>rfl
 have HT:=Za (show T.data.toList=[41,42] by rw [<-hT])
 rw [hE] at he
 rw [hC]
 clear h2 h3 h4 hC hE hT c0
 go_enter Tryz.func248,Tryz.ntmps248
 go_wp2_with (first
  | (go_at_call 260;((with_reducible refine (HV.out _).mono ?_);rintro e w1 ⟨rfl,aa⟩;rw [aa])))
 go_step3
 go_wp2_with fail
 go_loopw [9] (fun i wr=>i = .int .i64 1/\wr=w) (fun _ _=>0)
 case atStart=>exact ⟨rfl,rfl⟩
 case round =>
  obtain ⟨rfl,ab⟩:=hrel
  rw [ab]
  clear ab
  go_wp2_with fail
  go_step3
  go_wp2_with fail
  go_region_held3 (fun _=>True) (trivial) (fail)
  all_goals (go_wp2_with fail;(try clear he);(try clear c1);(try clear q2);(try clear q3);(try clear q0);(try clear q1);(try clear h1);go_region_held3 (fun _=>True) (trivial) ((go_at_call 187;((with_reducible refine (Tryz.strings_IndexByte T (b.toNat:Int) _).mono ?_);rintro e w1 ⟨rfl,aa⟩;rw [aa,HT.out,HI.out]))))
  all_goals (go_wp2_with fail;(refine (show bodyPost Tryz.prog Tryz.f248 (fun e w'=>e = .returned (.int .i64 (-1))/\Ext w w') Exit.ret _ _ from ?_));go_ret;exact ⟨rfl,zx⟩)
theorem zrz (r:Nat) (h1:128<=r) (h2:r<=1114111) (h3:r<55296∨57344<=r) (h4:r≠65533) (a b c:UInt8) (hb:128<=c.toNat) (he:Utf8.encode (r:Int)=⟨#[a,b,c]⟩) (w:World) :
  Calls Tryz.prog 248 #[.string ⟨#[32,40,41,42]⟩,.int .i32 (r:Int)] w fun e w'=>e = .returned (.int .i64 (-1))/\Ext w w':=by
 have q0:(0:Int)<=(r:Int):=by omega
 have q1:¬((r:Int)<128):=by omega
 have q2:((r:Int)==65533)=false:=by rw [ZC];omega
 have q3:((41:Int) != (c.toNat:Int))=true:=by simp;omega
 have HI:=Za (zg2 (l:=[42]) (by simp) hb)
 have HV:=Za (fun w=>zcG r h2 h3 w)
 obtain ⟨C,hC⟩:∃C:ByteArray,(⟨#[32,40,41,42]⟩:ByteArray)=C:=⟨_,rfl⟩
 obtain ⟨E,hE⟩:∃E:ByteArray,(⟨#[a,b,c]⟩:ByteArray)=E:=⟨_,rfl⟩
 obtain ⟨T,hT⟩:∃T:ByteArray,(⟨#[42]⟩:ByteArray)=T:=⟨_,rfl⟩
 have c0:C.size=4:=by rw [<-hC];rfl
 have c1:∀h:2<C.size,C[2]'h=41:=by subst hC;exact fun _=>rfl
 have c2:C.extract 3 C.size=T:=by rw [<-hC,<-hT];rfl
 have d0:(2:Int)<(C.size:Int):=by omega
 have d1:(3:Int)<=(C.size:Int):=by omega
 have d2:3<=C.size:=by omega
 have iw:=Zj (3:Int) (by omega)
 have d3:¬((C.size:Int)<3):=by omega
 have e0:E.size=3:=by rw [<-hE];rfl
 have e1:∀h:2<E.size,E[2]'h=c:=by subst hE;exact fun _=>rfl
 have HT:=Za (show T.data.toList=[42] by rw [<-hT])
 rw [hE] at he
 rw [hC]
 clear h2 h3 h4 hC hE hT c0
 go_enter Tryz.func248,Tryz.ntmps248
 go_wp2_with (first
  | (go_at_call 260;((with_reducible refine (HV.out _).mono ?_);rintro e w1 ⟨rfl,aa⟩;rw [aa])))
 go_step3
 go_wp2_with fail
 go_loopw [9] (fun i wr=>i = .int .i64 2/\wr=w) (fun _ _=>0)
 case atStart=>exact ⟨rfl,rfl⟩
 case round =>
  obtain ⟨rfl,ab⟩:=hrel
  rw [ab]
  clear ab
  go_wp2_with fail
  go_step3
  go_wp2_with fail
  go_region_held3 (fun _=>True) (trivial) (fail)
  all_goals (go_wp2_with fail;(try clear he);(try clear c1);(try clear q2);(try clear q3);(try clear q0);(try clear q1);(try clear h1);go_region_held3 (fun _=>True) (trivial) ((go_at_call 187;((with_reducible refine (Tryz.strings_IndexByte T (c.toNat:Int) _).mono ?_);rintro e w1 ⟨rfl,aa⟩;rw [aa,HT.out,HI.out]))))
  all_goals (go_wp2_with fail;(refine (show bodyPost Tryz.prog Tryz.f248 (fun e w'=>e = .returned (.int .i64 (-1))/\Ext w w') Exit.ret _ _ from ?_));go_ret;exact ⟨rfl,zx⟩)
theorem zrA (r:Nat) (h1:128<=r) (h2:r<=1114111) (h3:r<55296∨57344<=r) (h4:r≠65533) (a b c d:UInt8) (hb:128<=d.toNat) (he:Utf8.encode (r:Int)=⟨#[a,b,c,d]⟩) (w:World) :
  Calls Tryz.prog 248 #[.string ⟨#[32,40,41,42]⟩,.int .i32 (r:Int)] w fun e w'=>e = .returned (.int .i64 (-1))/\Ext w w':=by
 have q0:(0:Int)<=(r:Int):=by omega
 have q1:¬((r:Int)<128):=by omega
 have q2:((r:Int)==65533)=false:=by rw [ZC];omega
 have q3:((42:Int) != (d.toNat:Int))=true:=by simp;omega
 have HI:=Za (zg2 (l:=[]) (by simp) hb)
 have HV:=Za (fun w=>zcG r h2 h3 w)
 obtain ⟨C,hC⟩:∃C:ByteArray,(⟨#[32,40,41,42]⟩:ByteArray)=C:=⟨_,rfl⟩
 obtain ⟨E,hE⟩:∃E:ByteArray,(⟨#[a,b,c,d]⟩:ByteArray)=E:=⟨_,rfl⟩
 obtain ⟨T,hT⟩:∃T:ByteArray,(⟨#[]⟩:ByteArray)=T:=⟨_,rfl⟩
 have c0:C.size=4:=by rw [<-hC];rfl
 have c1:∀h:3<C.size,C[3]'h=42:=by subst hC;exact fun _=>rfl
 have c2:C.extract 4 C.size=T:=by rw [<-hC,<-hT];rfl
 have d0:(3:Int)<(C.size:Int):=by omega
 have d1:(4:Int)<=(C.size:Int):=by omega
 have d2:4<=C.size:=by omega
 have iw:=Zj (4:Int) (by omega)
 have d3:¬((C.size:Int)<4):=by omega
 have e0:E.size=4:=by rw [<-hE];rfl
 have e1:∀h:3<E.size,E[3]'h=d:=by subst hE;exact fun _=>rfl
 have HT:=Za (show T.data.toList=[] by rw [<-hT])
 rw [hE] at he
 rw [hC]
 clear h2 h3 h4 hC hE hT c0
 go_enter Tryz.func248,Tryz.ntmps248
 go_wp2_with (first
  | (go_at_call 260;((with_reducible refine (HV.out _).mono ?_);rintro e w1 ⟨rfl,aa⟩;rw [aa])))
 go_step3
 go_wp2_with fail
 go_loopw [9] (fun i wr=>i = .int .i64 3/\wr=w) (fun _ _=>0)
 case atStart=>exact ⟨rfl,rfl⟩
 case round =>
  obtain ⟨rfl,ab⟩:=hrel
  rw [ab]
  clear ab
  go_wp2_with fail
  go_step3
  go_wp2_with fail
  go_region_held3 (fun _=>True) (trivial) (fail)
  all_goals (go_wp2_with fail;(try clear he);(try clear c1);(try clear q2);(try clear q3);(try clear q0);(try clear q1);(try clear h1);go_region_held3 (fun _=>True) (trivial) ((go_at_call 187;((with_reducible refine (Tryz.strings_IndexByte T (d.toNat:Int) _).mono ?_);rintro e w1 ⟨rfl,aa⟩;rw [aa,HT.out,HI.out]))))
  all_goals (go_wp2_with fail;(refine (show bodyPost Tryz.prog Tryz.f248 (fun e w'=>e = .returned (.int .i64 (-1))/\Ext w w') Exit.ret _ _ from ?_));go_ret;exact ⟨rfl,zx⟩)
theorem zkZ (r:Nat) (h1:128<=r) (h2:r<=1114111) (h3:r<55296∨57344<=r) (w:World) :
  Calls Tryz.prog 248 #[.string ⟨#[32,40,41,42]⟩,.int .i32 (r:Int)] w fun e w'=>e = .returned (.int .i64 (-1))/\Ext w w':=by
 by_cases h4:r=65533
 ·subst h4
  exact ziP _ rfl w
 ·obtain ⟨n,l,he,hl,n1,n3,hb⟩:=zmf r h1 h2 h3
  match l,hl,n1,n3 with
  | [a,b],_,_,_=>exact zry r h1 h2 h3 h4 a b (hb b (by simp)) he w
  | [a,b,c],_,_,_=>exact zrz r h1 h2 h3 h4 a b c (hb c (by simp)) he w
  | [a,b,c,d],_,_,_=>exact zrA r h1 h2 h3 h4 a b c d (hb d (by simp)) he w
  | [],h,_,_=>exact absurd h (by simp)
  | [a],h,k,_=>exact absurd h (by simp;omega)
  | a::b::c::d::e::l',h,_,k=>exact absurd h (by simp;omega)
theorem zlQ {s:List UInt8} {i k:Nat} (h:Lib.NoAny s [32,40,41,42] i) (hs:∀(j:Nat) x,i<=j->j<i+k->s[j]?=some x->128<=x.toNat):Lib.NoAny s [32,40,41,42] (i+k):=by
 intro j b hj hb
 by_cases hji:j<i
 ·exact h j b hji hb
 ·have h9:=hs j b (by omega) hj hb
  cases hc:([32,40,41,42]:List UInt8).contains b with
  | false=>rfl
  | true =>
   have h8:=List.contains_iff_mem.1 hc
   simp only [Zx,List.not_mem_nil,or_false] at h8
   rcases h8 with rfl | rfl | rfl | rfl <;> exact absurd h9 (by decide)
theorem zj4 (s:ByteArray) (h8:s.size<=8) (w:World) :
  Calls Tryz.prog 246 #[.string s,.string ⟨#[32,40,41,42]⟩] w fun e w'=>e = .returned (.int .i64 (Lib.indexAny s.data.toList [32,40,41,42]))/\Ext w w':=by
 have ar:decide ((8:Int)<(s.size:Int))=false:=ZU (by omega)
 obtain ⟨C,hC⟩:∃C:ByteArray,(⟨#[32,40,41,42]⟩:ByteArray)=C:=⟨_,rfl⟩
 have hcz:C.size=4:=by rw [<-hC];rfl
 have ak:C.data.toList=[32,40,41,42]:=by rw [<-hC]
 have hemp:C.toList.isEmpty=false:=by rw [Lib.toList_data,<-hC];rfl
 have HH:=Za (fun (r:Nat) (w':World) (h1:128<=r) (h2:r<=1114111) (h3:r<55296∨57344<=r)=>zkZ r h1 h2 h3 w')
 rw [hC] at HH ⊢
 rw [<-ak]
 have ap:=Za ak
 have hn1:((C.size:Int)==1)=false:=ZC.2 (by omega)
 have hn0:(0:Int)<(C.size:Int):=by omega
 clear hC ak
 go_enter Tryz.func246,Tryz.ntmps246
 go_wp2_with (first
  | (go_at_call 249;((with_reducible refine (Tryz.strings_shouldUseASCIISet _ _).mono ?_);rintro e w1 ⟨rfl,aj⟩;rw [aj,ar])))
 go_loopg [9,10] s.size (fun g _ _ wx=>∃i:Nat,i+g=s.size/\wx.heap[w.heap.size]?=some (.stringIter s i)/\Below w.heap.size w wx/\Lib.NoAny s.data.toList C.data.toList i)
 case atStart=>exact ⟨0,by omega,World.iter_heap w s 0,(Below.refl _ w).alloc (Zb _) _,Lib.NoAny.zero _ _⟩
 case round =>
  obtain ⟨i,hig,ah,ae,am⟩:=hrel
  have HN:=Za am
  have HB:=Za ae
  clear am
  by_cases hi:i<s.size
  ·obtain ⟨x,hx⟩:∃x:UInt8,s[i]'hi=x:=⟨_,rfl⟩
   have al:s.data.toList[i]?=some x:=by rw [<-hx];exact Lib.data_getElem? s i hi
   by_cases hx128:x.toNat<128
   ·have af:=fun ty=>Lib.run_next_ascii_at (P:=Tryz.prog) wr w.heap.size s i ty ah hi (by rw [hx];exact hx128)
    rw [hx] at af
    have aa:=Lib.iterAt_heap wr w.heap.size s i (i+1) ah
    have ab:=Lib.below_iterAt ae (k:=w.heap.size) (Zb _) s (i+1)
    obtain ⟨W,ag⟩:∃W,wr.iterAt w.heap.size s (i+1)=W:=⟨_,rfl⟩
    rw [ag] at af aa ab
    have H2:=Za (And.intro aa ab)
    have Hx:=Za al
    have ac:=Lib.contains_iff_indexByte C.data.toList x
    have ad:((x.toNat:Int)).toNat.toUInt8=x:=by simp
    have HK:=Za (fun w':World=>Tryz.strings_IndexRune_ascii C (x.toNat:Int) w' (by omega) (by omega))
    clear al hx ag aa ab ae
    cases hin:C.data.toList.contains x with
    | false =>
     rw [hin] at ac
     have hlt:¬((0:Int)<=Lib.indexByte C.data.toList x):=of_decide_eq_false ac.symm
     have HI:=Za hin
     clear ac hin
     go_wp2_with (first
      | (go_at_call 248;((with_reducible refine (HK.out _).mono ?_);rintro e w1 ⟨rfl,aj⟩;rw [aj,ad])))
     go_roundg (s.size-(i+1))
     case measure=>omega
     case rel=>exact ⟨i+1,by omega,H2.out.1,H2.out.2,HN.out.succ Hx.out HI.out⟩
    | true =>
     rw [hin] at ac
     have hge:(0:Int)<=Lib.indexByte C.data.toList x:=of_decide_eq_true ac.symm
     have HI:=Za hin
     clear ac hin
     go_wp2_with (first
      | (go_at_call 248;((with_reducible refine (HK.out _).mono ?_);rintro e w1 ⟨rfl,aj⟩;rw [aj,ad])))
     go_ret
     exact ⟨by rw [Lib.indexAny_hit HN.out Hx.out HI.out];rfl,H2.out.2⟩
   ·obtain ⟨d1,d2,d3,d4,d5,d6⟩:=zmc s i hi (by rw [hx];omega)
    have af:∀ty,(Instr.next (.pointer (some ⟨w.heap.size,0,none⟩)) true ty).run Tryz.prog wr=_:=fun ty=>Lib.run_next_any_at wr w.heap.size s i ty ah hi
    obtain ⟨R,hR⟩:∃R,(Utf8.decode s i).1=R:=⟨_,rfl⟩
    obtain ⟨K,hK⟩:∃K,(Utf8.decode s i).2=K:=⟨_,rfl⟩
    rw [hR] at d1 d2 d3
    rw [hK] at d4 d5 d6
    rw [hR,hK] at af
    have aa:=Lib.iterAt_heap wr w.heap.size s i (i+K) ah
    have ab:=Lib.below_iterAt ae (k:=w.heap.size) (Zb _) s (i+K)
    obtain ⟨W,ag⟩:∃W,wr.iterAt w.heap.size s (i+K)=W:=⟨_,rfl⟩
    rw [ag] at af aa ab
    have ai:w.heap.size<W.heap.size:=(Zh.1 aa).1
    have H2:=Za (And.intro ai (And.intro aa ab))
    have HK:=Za (fun w':World=>HH.out R w' d1 d2 d3)
    have aq:=Za (show Lib.NoAny s.data.toList C.data.toList (i+K) from by
     have h9:=HN.out
     rw [ap.out] at h9 ⊢
     exact zlQ h9 d6)
    clear hR hK ag aa ab ae d1 d2 d3 d6 hx al ai
    go_wp2_with (first
     | (go_at_call 248;((with_reducible refine (HK.out _).mono ?_);rintro e w1 ⟨rfl,ao⟩)))
    go_roundg (s.size-(i+K))
    case measure=>omega
    case rel=>exact ⟨i+K,by omega,(ao.block _ H2.out.1).trans H2.out.2.1,H2.out.2.2.trans (ao.mono H2.out.2.2.size),aq.out⟩
  ·obtain rfl:i=s.size:=by omega
   have af:∀ty,(Instr.next (.pointer (some ⟨w.heap.size,0,none⟩)) true ty).run Tryz.prog wr=_:=fun ty=>Lib.run_next_end_at wr w.heap.size s s.size ty ah hi
   clear ae
   go_wp2_with fail
   go_ret
   exact ⟨by rw [Lib.indexAny_none (by rw [<-Lib.size_eq];exact HN.out)];rfl,HB.out⟩
theorem zmD (s:List UInt8) (hl:s.length<=1000000) (w:World) :
  Calls Tryz.prog 246 #[.string ⟨s.toArray⟩,.string ⟨#[32,40,41,42]⟩] w fun e w'=>e = .returned (.int .i64 (Lib.indexAny s [32,40,41,42]))/\Ext w w':=by
 by_cases h8:s.length<=8
 ·have h:=zj4 ⟨s.toArray⟩ (by rw [zai];exact h8) w
  rw [zae] at h
  exact h
 ·have h:=Tryz.strings_IndexAny_long (zero_of_info (n:=256) (by kernel_rfl)).1 ⟨s.toArray⟩ ⟨#[32,40,41,42]⟩ w (by decide) (by rw [zai];omega) (by rw [zai];omega) (by decide) (fun j b hb=>by
   have h9:b∈([32,40,41,42]:List UInt8):=List.mem_of_getElem? hb
   simp at h9
   rcases h9 with rfl | rfl | rfl | rfl <;> decide)
  rw [zae,show (⟨#[32,40,41,42]⟩:ByteArray).data.toList=[32,40,41,42] from rfl] at h
  exact h.mono fun e w' h9=>⟨h9.1,h9.2 ▸ ((Ze _).alloc _).alloc _⟩
end Go.Proofs.YtbjgpbojjhldaaaGreatDoor
