/- The other ways through read; and what read returns of whatever word. -/
import Derived.Test.YtkneghkbgingdaaGreatDoorT10
import Derived.Laws.CopyOwn
set_option maxHeartbeats 16000000
namespace Go.Proofs.YtkneghkbgingdaaGreatDoor
set_option maxRecDepth 100000
open Go.RowKit
theorem zk3 {P:Program} {w:World} (ts:Array TypeId) (t:TypeId) (x y:Int):(Builtin.min_ ts t #[.int .i64 x,.int .i64 y]).run P w = .ok (.int .i64 (min x y)) w:=by
 rw [run_min_int2]
 congr 2
 split <;> omega
theorem zom (l:List UInt8) (hE:(l==[121,111])=true) (w:World) :
  Calls Tryz.prog 193 #[.string ⟨l.toArray⟩] w fun e w'=>e = .returned (.tuple #[.agg #[.int .u8 2,.bool false,.int .i64 0,.int .i64 0],.int .i64 1])/\Ext w w':=by
 go_enter Tryz.func193,Tryz.ntmps193
 go_wp2
 exact bodyPost_ret (v := .tuple #[.agg #[.int .u8 2,.bool false,.int .i64 0,.int .i64 0],.int .i64 1]) (by simp [results,Tryz.f193,go_sem]) rfl ⟨rfl,by repeat (first | exact Zf _ | assumption | refine Zp ?_ _ | refine Z2 ?_ | refine Ext.set ?_ (by simp) _ | refine Zi ?_ (by assumption))⟩
theorem zok (l T:List UInt8) (hl:l.length<=100000) (hE:(l==[121,111])=false) (hP:[111,110].isPrefixOf l=true) (h2:2<=l.length) (hT:T.length<=l.length) (hx:(⟨l.toArray⟩:ByteArray).extract 2 l.length=⟨T.toArray⟩) (w:World) (hg:Glob w) :
  Calls Tryz.prog 193 #[.string ⟨l.toArray⟩] w fun e w'=>e = .returned (.tuple #[.agg #[.int .u8 9,.bool false,.int .i64 (numR T).1,.int .i64 0],.int .i64 1])/\Ext w w':=by
 have HG:=Za hg
 have HP:=Za hP
 have q0:(2:Int)<=(l.length:Int):=by omega
 clear hg hP
 go_enter Tryz.func193,Tryz.ntmps193
 go_upto_region 5 with (first
  | (go_at_call 197;(((with_reducible refine (zaS l [111,110] _).mono ?_);rintro e w1 ⟨rfl,rfl⟩;rw [HP.out])))
  | (go_at_call 198;(((with_reducible refine (zaE T (by omega) _ (HG.out.ext (by repeat (first | exact Zf _ | assumption | refine Zp ?_ _ | refine Z2 ?_ | refine Ext.set ?_ (by simp) _ | refine Zi ?_ (by assumption))))).mono ?_);rintro e w2 ⟨rfl,hq2⟩;have aa:=Za ((Bx.new w _ _ _ _ _).ext hq2);have ab:=Za (Zi ((Zf w).alloc _) hq2);obtain ⟨⟨b0,b1,b2,b3⟩,f0,f1,f2,f3⟩:=aa.out))))
 go_wp2
 obtain ⟨WF,hWF⟩:∃WF,(((w2.setCell ⟨w.heap.size,0,none⟩ (.int .u8 9)).setCell ⟨w.heap.size,1,none⟩ (.bool false)).setCell ⟨w.heap.size,2,none⟩ (.int .i64 (numR T).1)).setCell ⟨w.heap.size,3,none⟩ (.int .i64 0)=WF:=⟨_,rfl⟩
 have HX:=Za (show Ext w WF by rw [<-hWF];exact (((ab.out.set (by simp) _).set (by simp) _).set (by simp) _).set (by simp) _)
 obtain ⟨y0,y1,y2,y3⟩:=zpF aa.out.has hWF
 rw [hWF]
 exact bodyPost_ret (v := .tuple #[.agg #[.int .u8 9,.bool false,.int .i64 (numR T).1,.int .i64 0],.int .i64 1]) (by simp [results,Tryz.f193,go_sem,y0,y1,y2,y3]) rfl ⟨rfl,HX.out⟩
theorem zZ6 {p:Prop} (h:p:=by
 clear hP
 go_enter Tryz.func193,Tryz.ntmps193
 go_wp2_with (go_at_call 197;(((with_reducible refine (zaS l [111,110] _).mono ?_);rintro e w1 ⟨rfl,rfl⟩;rw [HP.out])))
 exact bodyPost_ret (v := .tuple #[.agg #[.int .u8 0,.bool false,.int .i64 0,.int .i64 0],.int .i64 1]) (by simp [results,Tryz.f193,go_sem]) rfl ⟨rfl,by repeat (first | exact Zf _ | assumption | refine Zp ?_ _ | refine Z2 ?_ | refine Ext.set ?_ (by simp) _ | refine Zi ?_ (by assumption))⟩):p:=h
theorem zoj (l:List UInt8) (hE:(l==[121,111])=false) (hP:[111,110].isPrefixOf l=false) (he:l.isEmpty=true) (w:World) :
  Calls Tryz.prog 193 #[.string ⟨l.toArray⟩] w fun e w'=>e = .returned (.tuple #[.agg #[.int .u8 0,.bool false,.int .i64 0,.int .i64 0],.int .i64 1])/\Ext w w':=by
 have HP:=Za hP
 exact zZ6
theorem zmD (l:List UInt8) (c:UInt8) (hE:(l==[121,111])=false) (hP:[111,110].isPrefixOf l=false) (he:l.isEmpty=false) (hl:0<l.length) (h0:∀h,(⟨l.toArray⟩:ByteArray)[0]'h=c) (h1:((c.toNat:Int) != 107)=true) (h2:((c.toNat:Int) != 112)=true) (w:World) :
  Calls Tryz.prog 193 #[.string ⟨l.toArray⟩] w fun e w'=>e = .returned (.tuple #[.agg #[.int .u8 0,.bool false,.int .i64 0,.int .i64 0],.int .i64 1])/\Ext w w':=by
 have HP:=Za hP
 have q0:(0:Int)<(l.length:Int):=by omega
 exact zZ6
theorem zfQ (l R:List UInt8) (N:Int) (c:UInt8) (cv:Bool) (hc:c=107/\cv=false∨c=112/\cv=true) (hl:l.length<=100000) (hR:R.length+1=l.length) (hE:(l==[121,111])=false) (hP:[111,110].isPrefixOf l=false)
  (h0:∀h,(⟨l.toArray⟩:ByteArray)[0]'h=c) (hx:(⟨l.toArray⟩:ByteArray).extract 1 l.length=⟨R.toArray⟩) (hn:(numR R).1=N) (hy:R.isEmpty=true∨R.isEmpty=false/\0<=N) (w:World) (hg:Glob w) :
  Calls Tryz.prog 193 #[.string ⟨l.toArray⟩] w fun e w'=>e = .returned (.tuple #[.agg #[.int .u8 1,.bool cv,.int .i64 0,.int .i64 0],.int .i64 (min (max N 1) 201)])/\Ext w w':=by
 have HG:=Za hg
 have HN:=Za hn
 have HP:=Za hP
 have q0:(0:Int)<(l.length:Int):=by omega
 have q2:(1:Int)<=(l.length:Int):=by omega
 have l0:l.isEmpty=false:=by cases l with
  | nil=>simp at hR
  | cons _ _=>rfl
 have m1:∀(ts:Array TypeId) (t:TypeId) (W:World),(Builtin.max_ ts t #[.int .i64 N,.int .i64 1]).run Tryz.prog W = .ok (.int .i64 (max N 1)) W:=fun ts t W=>zbR ts t N 1
 have m2:∀(ts:Array TypeId) (t:TypeId) (W:World),(Builtin.min_ ts t #[.int .i64 (max N 1),.int .i64 201]).run Tryz.prog W = .ok (.int .i64 (min (max N 1) 201)) W:=fun ts t W=>zk3 ts t _ _
 clear hg hn hP
 rcases hc with ⟨rfl,rfl⟩ | ⟨rfl,rfl⟩ <;> rcases hy with he | ⟨he,h5⟩
 all_goals
  go_enter Tryz.func193,Tryz.ntmps193
  go_upto_region 13 with (first
   | (go_at_call 197;(((with_reducible refine (zaS l [111,110] _).mono ?_);rintro e w1 ⟨rfl,rfl⟩;rw [HP.out])))
   | (go_at_call 198;((with_reducible refine (zaE R (by omega) _ (HG.out.ext exS)).mono ?_);rintro e w2 ⟨rfl,hq2⟩;rw [HN.out];have aa:=Za ((Bx.new w _ _ _ _ _).ext hq2);have ab:=Za (Zi ((Zf w).alloc _) hq2);obtain ⟨⟨b0,b1,b2,b3⟩,f0,f1,f2,f3⟩:=aa.out)))
  have hB9:=aa.out.set0 (.int .u8 1)
  have hX9:Ext w (w2.setCell ⟨w.heap.size,0,none⟩ (.int .u8 1)):=ab.out.set (by simp) _
  obtain ⟨W9,hW9⟩:∃W9,w2.setCell ⟨w.heap.size,0,none⟩ (.int .u8 1)=W9:=⟨_,rfl⟩
  exact zZ1
end Go.Proofs.YtkneghkbgingdaaGreatDoor
/- What read returns of whatever word. -/
namespace Go.Proofs.YtkneghkbgingdaaGreatDoor
set_option maxRecDepth 100000
open Go.RowKit
def ReadR (x:St×Int) (w:World) (e:Ending) (w':World):Prop:=e = .returned (.tuple #[.agg #[.int .u8 x.1.k,.bool x.1.p,.int .i64 x.1.a,.int .i64 x.1.b],.int .i64 x.2])/\Ext w w'
theorem zaL {l:List UInt8} {x:St×Int} {w:World} {k:Int} {p:Bool} {a b n:Int} (h:Calls Tryz.prog 193 #[.string ⟨l.toArray⟩] w fun e w'=>e = .returned (.tuple #[.agg #[.int .u8 k,.bool p,.int .i64 a,.int .i64 b],.int .i64 n])/\Ext w w') (hx:x=(⟨k,p,a,b⟩,n)) :
  Calls Tryz.prog 193 #[.string ⟨l.toArray⟩] w (ReadR x w):=by
 subst hx
 exact h
theorem zmk {l:List UInt8} (h:¬0<=(numR l).1):(numR l).1 = -1:=by
 unfold numR at h ⊢
 split
 ·rfl
 ·rename_i h1
  rw [if_neg h1] at h
  exact absurd (Int.natCast_nonneg _) h
theorem zgH {d:UInt8} (h1:d≠102) (h2:d≠108) (h3:d≠109) (h4:d≠120) (h5:d≠121) (h6:d≠115) (h7:d≠111) (h8:d≠63):Lib.indexByte letters d = -1/\kindL d=3:=by
 constructor
 ·simp [letters,Lib.indexByte,Ne.symm h1,Ne.symm h2,Ne.symm h3,Ne.symm h4,Ne.symm h5,Ne.symm h6,Ne.symm h7,Ne.symm h8]
 ·simp [kindL,h1,h2,h3,h4,h5,h6,h7,h8]
theorem zkP (d:UInt8) (r:List UInt8) (c:UInt8) (cv:Bool) (hc:c=107/\cv=false∨c=112/\cv=true) (hl:(c::d::r:List UInt8).length<=100000) (hn:(numR (d::r)).1 = -1) (w:World) (hg:Glob w) :
  Calls Tryz.prog 193 #[.string ⟨(c::d::r:List UInt8).toArray⟩] w (ReadR (readK cv d r,1) w):=by
 have H:RdH (c::d::r) (d::r) r d c:=by
  refine ⟨hl,by simp,by simp,?_,?_,?_,?_,?_,?_,hn⟩
  ·rcases hc with ⟨rfl,_⟩ | ⟨rfl,_⟩ <;> simp
  ·rcases hc with ⟨rfl,_⟩ | ⟨rfl,_⟩ <;> simp [List.isPrefixOf]
  ·exact fun h=>zam (c::d::r) 0 h
  ·exact zai (c::d::r) 1 _ (Zg _)
  ·exact fun h=>zam (d::r) 0 h
  ·exact zai (d::r) 1 _ (Zg _)
 by_cases h0:d=102
 ·subst h0
  exact zaL (zfP _ _ _ _ c cv H hc 0 0 3 rfl (by simp) w hg) rfl
 by_cases h1:d=108
 ·subst h1
  exact zaL (zfP _ _ _ _ c cv H hc 1 1 4 rfl (by simp) w hg) rfl
 by_cases h2:d=109
 ·subst h2
  exact zaL (zfP _ _ _ _ c cv H hc 2 2 5 rfl (by simp) w hg) rfl
 by_cases h3:d=120
 ·subst h3
  exact zaL (znu _ _ _ _ c cv H hc 3 3 6 rfl (by simp) w hg) rfl
 by_cases h4:d=121
 ·subst h4
  exact zaL (znu _ _ _ _ c cv H hc 4 4 7 rfl (by simp) w hg) rfl
 by_cases h5:d=115
 ·subst h5
  exact zaL (zo8 _ _ _ _ c cv H hc rfl w hg) rfl
 by_cases h6:d=111
 ·subst h6
  exact zaL (zfP _ _ _ _ c cv H hc 6 6 10 rfl (by simp) w hg) rfl
 by_cases h7:d=63
 ·subst h7
  exact zaL (zo7 _ _ _ _ c cv H hc rfl w hg) rfl
 obtain ⟨hi,hk⟩:=zgH h0 h1 h2 h3 h4 h5 h6 h7
 refine zaL (zfP _ _ _ _ c cv H hc (-1) 0 3 hi (by simp) w hg) ?_
 unfold readK
 rw [hk]
 rfl
theorem zdF (R:List UInt8) (c:UInt8) (cv:Bool) (hc:c=107/\cv=false∨c=112/\cv=true) (hl:(c::R:List UInt8).length<=100000) (w:World) (hg:Glob w) :
  Calls Tryz.prog 193 #[.string ⟨(c::R:List UInt8).toArray⟩] w (ReadR (readW (c::R)) w):=by
 have hE:((c::R:List UInt8)==[121,111])=false:=by rcases hc with ⟨rfl,_⟩ | ⟨rfl,_⟩ <;> simp
 have hP:[111,110].isPrefixOf (c::R:List UInt8)=false:=by rcases hc with ⟨rfl,_⟩ | ⟨rfl,_⟩ <;> simp [List.isPrefixOf]
 have h0:=zam (c::R) 0
 have hx:=zai (c::R) 1 _ (Zg _)
 simp only [ZR,List.drop_succ_cons,List.drop_zero] at h0 hx
 cases R with
 | nil=>exact zaL (zfQ [c] [] (-1) c cv hc hl rfl hE hP h0 hx rfl (.inl rfl) w hg) (by rcases hc with ⟨rfl,rfl⟩ | ⟨rfl,rfl⟩ <;> rfl)
 | cons d r =>
  by_cases h5:0<=(numR (d::r)).1
  ·refine zaL (zfQ (c::d::r) (d::r) (numR (d::r)).1 c cv hc hl rfl hE hP h0 hx rfl (.inr ⟨rfl,h5⟩) w hg) ?_
   rcases hc with ⟨rfl,rfl⟩ | ⟨rfl,rfl⟩ <;> simp [readW,h5]
  ·have h7:readW (c::d::r)=(readK cv d r,1):=by rcases hc with ⟨rfl,rfl⟩ | ⟨rfl,rfl⟩ <;> simp [readW,h5]
   rw [h7]
   exact zkP d r c cv hc hl (zmk h5) w hg
theorem zh5 (l:List UInt8) (hl:l.length<=100000) (w:World) (hg:Glob w):Calls Tryz.prog 193 #[.string ⟨l.toArray⟩] w (ReadR (readW l) w):=by
 cases l with
 | nil=>exact zaL (zoj [] rfl rfl rfl w) rfl
 | cons c R =>
  by_cases h1:c=107
  ·subst h1;exact zdF R 107 false (.inl ⟨rfl,rfl⟩) hl w hg
  by_cases h2:c=112
  ·subst h2;exact zdF R 112 true (.inr ⟨rfl,rfl⟩) hl w hg
  by_cases hy:c=121/\R=[111]
  ·obtain ⟨rfl,rfl⟩:=hy
   exact zaL (zom [121,111] rfl w) rfl
  have hE:((c::R:List UInt8)==[121,111])=false:=by
   rw [Ze]
   intro e
   injection e with e1 e2
   exact hy ⟨e1,e2⟩
  by_cases ho:c=111/\R.head?=some 110
  ·obtain ⟨rfl,h3⟩:=ho
   cases R with
   | nil=>cases h3
   | cons x t =>
    obtain rfl:x=110:=by simpa using h3
    have hx:=zai (111::110::t) 2 _ (Zg _)
    simp only [List.drop_succ_cons,List.drop_zero] at hx
    refine zaL (zok (111::110::t) t hl hE (by simp [List.isPrefixOf]) (by simp) (by simp;omega) hx w hg) ?_
    simp [readW]
  ·have hP:[111,110].isPrefixOf (c::R:List UInt8)=false:=by
    rw [Bool.eq_false_iff]
    intro e
    cases R with
    | nil=>simp [List.isPrefixOf] at e
    | cons x t =>
     simp [List.isPrefixOf] at e
     exact ho ⟨e.1.symm,by simp [e.2]⟩
   have h0:=zam (c::R) 0
   simp only [ZR] at h0
   refine zaL (zmD (c::R) c hE hP rfl (by simp) h0 ?_ ?_ w) ?_
   ·rw [bne_iff_ne]
    intro e
    apply h1
    apply ZQ.1
    have:c.toNat=107:=by omega
    rw [this];rfl
   ·rw [bne_iff_ne]
    intro e
    apply h2
    apply ZQ.1
    have:c.toNat=112:=by omega
    rw [this];rfl
   ·unfold readW
    simp only [hy,ho,h1,h2,if_false,or_self,not_false_eq_true,if_true]
    rfl
end Go.Proofs.YtkneghkbgingdaaGreatDoor
/- Slices that a call makes at once,and copies into them;elements of any size. -/
namespace Go.Proofs.YtkneghkbgingdaaGreatDoor
set_option maxRecDepth 100000
open Go.RowKit Go.ChangeShapes Go.WideShapes Go.Joins
section
variable {P:Program} {ops:Array Oper} {rest:List Oper} {o:Oper} {a:Act} {K:Act->World->Prop} {Q:Exit->Act->World->Prop} {E:Prop} {w wx:World}
theorem zhc (T e:TypeId) (z:Value) (size bytes:Nat) {l:Operand} (n B:Nat) (hop:o.op = .makeSlice T l l) (ht:P.underlying T=some (.slice e)) (hinfo:(P.info? e).map (fun i=>(i.zero,i.size,i.bytes))=some (some z,size,bytes))
  (hl:a.eval l = .int .i64 (n:Int)) (hn:n<=1000000) (hby:bytes<=1000) (hB:B<=wx.heap.size)
  (h:∀w1,w1.ownsRow B e size (.slice (some ⟨wx.heap.size,0,none⟩) n n) n (madeCells z.cells (n*size)).toList->Ext wx w1->wx.heap.size<w1.heap.size->K (a.put o.dst (.slice (some ⟨wx.heap.size,0,none⟩) n n)) w1):o.wp P a wx K Q:=by
 obtain ⟨i0,hi,ab,hz1,ac⟩:=info_parts hinfo
 obtain ⟨w',aa,r1,r2⟩:=run_make_full (P:=P) wx B T e i0 z size ht hi ab hz1 .i64 .i64 n (by rw [ac];have:=Nat.mul_le_mul hby hn;omega) (by unfold maxLen;omega) hB
 unfold Oper.wp
 simp [execOp,hop,hl,aa,Result.andThen]
 refine h w' r1 (But.ext_none r2) ?_
 obtain ⟨_,h2⟩:=zbk r1 wx.heap.size (by simp [Value.ownBlock])
 exact h2
theorem zbX (T e:TypeId) (z:Value) (size bytes:Nat) {l:Operand} (n B:Nat) (hgd:o.guard=none) (hop:o.op = .makeSlice T l l) (ht:P.underlying T=some (.slice e)) (hinfo:(P.info? e).map (fun i=>(i.zero,i.size,i.bytes))=some (some z,size,bytes))
  (hl:a.eval l = .int .i64 (n:Int)) (hn:n<=1000000) (hby:bytes<=1000) (hB:B<=wx.heap.size)
  (h:∀w1,Hid (w1.ownsRow B e size (.slice (some ⟨wx.heap.size,0,none⟩) n n) n (madeCells z.cells (n*size)).toList)->Hid (Ext wx w1)->wx.heap.size<w1.heap.size->wpList P ops Q rest (a.put o.dst (.slice (some ⟨wx.heap.size,0,none⟩) n n)) w1):wpList P ops Q (o::rest) a wx :=
 wpList_plain hgd fun _ hK=>zhc T e z size bytes n B hop ht hinfo hl hn hby hB fun w' h1 h2 h3=>hK _ _ (h w' h1 h2 h3)
theorem zf6 (g:Nat) (t:TypeId):∀(vs:List Value) (off:Nat) (w:World) (cur:Array Value),w.heap[g]?=some (.cells cur t (0,0))->∃cur',(w.setCells g off vs).heap[g]?=some (.cells cur' t (0,0))/\cur'.size=cur.size:=by
 intro vs
 induction vs with
 | nil=>intro off w cur h;exact ⟨cur,h,rfl⟩
 | cons v r ih =>
  intro off w cur h
  have h1:=heap_setCell_same w g off cur t v h
  obtain ⟨cur',h2,h3⟩:=ih (off+1) _ _ h1
  exact ⟨cur',h2,by rw [h3];simp⟩
theorem zf4 (g:Nat):∀(vs:List Value) (off:Nat) (w:World),But (some g) w (w.setCells g off vs):=by
 intro vs
 induction vs with
 | nil=>intro off w;exact But.refl _ _
 | cons v r ih =>
  intro off w
  exact ((But.refl (some g) w).own (p:=⟨g,off,none⟩) rfl v).trans (ih (off+1) _)
end
end Go.Proofs.YtkneghkbgingdaaGreatDoor
/- A copy of some elements into a part of a row. -/
namespace Go.Proofs.YtkneghkbgingdaaGreatDoor
set_option maxRecDepth 100000
open Go.RowKit Go.ChangeShapes Go.WideShapes Go.Joins
section
variable {P:Program}
theorem zeP (w:World) (dT sT ty elem:TypeId) (size m:Nat) (g o:Nat) (ad:Addr) (dn dc sn sc:Nat) (cs:List Value) (hu:P.underlying dT=some (.slice elem)) (hs:(P.info? elem).map (·.size)=some size) (hm:m=sn.min dn) (hn:cs.length=m*size)
  (hsrc:∀j v,cs[j]?=some v->w.cell? (ad.add j)=some v)
  (hc:∀j,j<cs.length->(w.cell? ⟨g,o+j,none⟩).isSome=true) (hf:∀j,j<cs.length->w.frozen? ⟨g,o+j,none⟩=false) (h1:∀v∈cs,v.oneCell'=true) :
  (Builtin.copy_ #[dT,sT] ty #[.slice (some ⟨g,o,none⟩) dn dc,.slice (some ad) sn sc]).run P w = .ok (goInt m) (w.setCells g o cs):=by
 cases hq:P.info? elem with
 | none=>simp [hq] at hs
 | some i =>
  have hi:i.size=size:=by simpa [hq] using hs
  have hl:=run_loadCells_list (P:=P) w ad cs hsrc
  have aa:=run_storeCells_cells (P:=P) g o cs 0 w (by simpa using hc) (by simpa using hf) h1
  rw [hn] at hl
  subst hm
  simp [Builtin.copy_,run_underlying hu,Builtin.lenOf,Builtin.firstCells,sizeOf,typeInfo,hq,hi,hl,aa]
end
end Go.Proofs.YtkneghkbgingdaaGreatDoor
/- A copy into the middle of a row that the call has made. -/
namespace Go.Proofs.YtkneghkbgingdaaGreatDoor
set_option maxRecDepth 100000
open Go.RowKit Go.ChangeShapes Go.WideShapes Go.Joins
section
variable {P:Program} {ops:Array Oper} {rest:List Oper} {o:Oper} {a:Act} {K:Act->World->Prop} {Q:Exit->Act->World->Prop} {E:Prop} {w wx:World}
theorem zf5 {g:Nat} {t:TypeId} {w:World} {A X B cs:List Value} (h:w.heap[g]?=some (.cells (A++X++B).toArray t (0,0))) (hl:cs.length=X.length) :
  (w.setCells g A.length cs).heap[g]?=some (.cells (A++cs++B).toArray t (0,0)):=by
 obtain ⟨cur',h1,h2⟩:=zf6 g t cs A.length w _ h
 have ab:∀j,j<cs.length->(w.cell? ⟨g,A.length+j,none⟩).isSome=true:=fun j hj=>by
  rw [cell_of_row w g _ _ t (0,0) h,Array.getElem?_eq_getElem (by simp;omega)]
  rfl
 have e:cur'=(A++cs++B).toArray:=by
  apply Array.ext
  ·simp [h2,hl]
  ·intro j hj aa
   simp only [List.getElem_toArray]
   have hj3:j<A.length+X.length+B.length:=by simpa [h2,Nat.add_assoc] using hj
   have hc:(w.setCells g A.length cs).cell? ⟨g,j,none⟩=some cur'[j]:=by
    rw [cell_of_row _ g j cur' t (0,0) h1,Array.getElem?_eq_getElem hj]
   rcases Z0 j A.length with h3 | h3
   ·rw [World.cell?_setCells_out g cs A.length w ⟨g,j,none⟩ (fun _ _ => .inl h3),cell_of_row w g j _ t (0,0) h] at hc
    have:(A++cs++B)[j]?=some cur'[j]:=by
     rw [<-hc]
     simp [h3,Nat.lt_add_right]
    exact (Z8 (this.symm.trans (Zd (by simpa using aa))))
   ·rcases Z0 j (A.length+cs.length) with h4 | h4
    ·have h5:=World.cell?_setCells_in g cs A.length w ab (j-A.length) (by omega)
     rw [show A.length+(j-A.length)=j by omega,hc] at h5
     have:(A++cs++B)[j]?=some cur'[j]:=by
      rw [h5,ZB,ZL h3,ZN (by omega),Zd (by omega)]
     exact (Z8 (this.symm.trans (Zd (by simpa using aa))))
    ·rw [World.cell?_setCells_out g cs A.length w ⟨g,j,none⟩ (fun _ _ => .inr h4),cell_of_row w g j _ t (0,0) h] at hc
     have:(A++cs++B)[j]?=some cur'[j]:=by
      rw [<-hc,List.getElem?_toArray,ZL (by simp;omega),ZL (by simp;omega)]
      simp [hl]
     exact (Z8 (this.symm.trans (Zd (by simpa using aa))))
 rw [h1,e]
theorem zhn (dT sT ty e:TypeId) (size:Nat) {g n B k m dn dc sn sc:Nat} {ad:Addr} {A X Y cs:List Value} (hu:P.underlying dT=some (.slice e)) (hsz:(P.info? e).map (·.size)=some size)
  (hown:wx.ownsRow B e size (.slice (some ⟨g,0,none⟩) n n) n (A++X++Y)) (hk:A.length=k) (hm:m=sn.min dn) (hl:cs.length=m*size) (hX:X.length=cs.length) (hsrc:∀j u,cs[j]?=some u->wx.cell? (ad.add j)=some u) (h1:∀v∈cs,v.oneCell'=true) :
  (Builtin.copy_ #[dT,sT] ty #[.slice (some ⟨g,k,none⟩) dn dc,.slice (some ad) sn sc]).run P wx = .ok (goInt m) (wx.setCells g k cs)/\(wx.setCells g k cs).ownsRow B e size (.slice (some ⟨g,0,none⟩) n n) n (A++cs++Y)/\But (some g) wx (wx.setCells g k cs):=by
 subst hk
 have aa:=hown.1
 have ae:∃cur,B<=g/\wx.heap[g]?=some (.cells cur e (0,0))/\n<=maxLen/\cur.size=n*size/\cur.toList.take (n*size)=A++X++Y:=by
  rcases hown.2 with ⟨h',_⟩ | ⟨g',cap',cur,h',hb,hg,hnc,af,ab,hq⟩
  ·simp at h'
  ·simp only [Value.slice.injEq,Option.some.injEq,Addr.mk.injEq,and_true,true_and] at h'
   obtain ⟨rfl,rfl⟩:=h'
   exact ⟨cur,hb,hg,af,ab,hq⟩
 obtain ⟨cur,hb,hg,ag,ab,hq⟩:=ae
 have ac:cur=(A++X++Y).toArray:=by
  rw [<-hq,ZE (by simp [ab])]
 subst ac
 refine ⟨zeP wx dT sT ty e size m g A.length ad dn dc sn sc cs hu hsz hm hl hsrc ?_ (fun j _=>World.ownsRow.frozenAt hown _) h1,⟨?_,.inr ⟨g,n,_,rfl,hb,zf5 hg hX.symm,Zg _,ag,?_,?_⟩⟩,zf4 g cs A.length wx⟩
 ·intro j hj
  rw [cell_of_row wx g _ _ e (0,0) hg,Array.getElem?_eq_getElem (by simp;omega)]
  rfl
 ·simpa [hX] using aa
 ·simpa [hX] using ab
 ·refine ZE ?_
  show (A++cs++Y).length<=n*size
  simp only [Zb] at aa ⊢
  omega
end

end Go.Proofs.YtkneghkbgingdaaGreatDoor
