/- read: a word is read. -/
import Derived.Test.YtbjgpbojjhldaaaGreatDoorY13
namespace Go.Proofs.YtbjgpbojjhldaaaGreatDoor
set_option maxHeartbeats 16000000
set_option maxRecDepth 100000
open Go.RowKit
theorem Ext.set {a b:World} (h:Ext a b) {p:Addr} (hp:a.heap.size<=p.block) (v:Value):Ext a (b.setCell p v):=ZJ h hp v
def Has (w:World) (g:Nat):Prop:=∀i,i<4->∃u,w.cell? ⟨g,i,none⟩=some u
theorem Has.ext {w w':World} {g:Nat} (h:Has w g) (hb:Ext w w'):Has w' g:=fun i hi=>by
 obtain ⟨u,hu⟩:=h i hi
 exact ⟨u,(Zl (p:=⟨g,i,none⟩) hb (Zn w _ hu)).trans hu⟩
theorem Has.set {w:World} {g:Nat} (h:Has w g) (p:Addr) (v:Value):Has (w.setCell p v) g:=fun i hi=>by
 obtain ⟨u,hu⟩:=h i hi
 by_cases e:p=⟨g,i,none⟩
 ·subst e;exact ⟨v,Zq _ _ _ hu⟩
 ·exact ⟨u,(Zg _ _ _ _ e).trans hu⟩
theorem Has.alloc {w:World} {g:Nat} (h:Has w g) (o:Obj):Has (w.alloc o) g:=h.ext ((Ze w).alloc o)
theorem Has.new (w:World) (a b c d:Value) (t:TypeId):Has (w.alloc (.cells #[a,b,c,d] t)) w.heap.size:=fun i hi=>by
 have h1:(w.alloc (.cells #[a,b,c,d] t)).heap[w.heap.size]?=some (.cells #[a,b,c,d] t):=heap_alloc_new w _
 rw [cell_of_row _ w.heap.size i _ t (0,0) h1]
 exact ⟨_,Array.getElem?_eq_getElem (by simpa using hi)⟩
theorem zej {w:World} {g i j:Nat} {v:Value} (h:i≠j):(w.setCell ⟨g,i,none⟩ v).cell? ⟨g,j,none⟩=w.cell? ⟨g,j,none⟩:=Zg _ _ _ _ (fun e=>h (by injection e))
theorem zsu {w W:World} {g:Nat} {v0 v1 v2 v3:Value} (h:Has w g) (e:(((w.setCell ⟨g,0,none⟩ v0).setCell ⟨g,1,none⟩ v1).setCell ⟨g,2,none⟩ v2).setCell ⟨g,3,none⟩ v3=W) :
  W.cell? ⟨g,0,none⟩=some v0/\W.cell? ⟨g,1,none⟩=some v1/\W.cell? ⟨g,2,none⟩=some v2/\W.cell? ⟨g,3,none⟩=some v3:=by
 subst e
 obtain ⟨u0,h0⟩:=h 0 (by omega)
 obtain ⟨u1,h1⟩:=(h.set ⟨g,0,none⟩ v0) 1 (by omega)
 obtain ⟨u2,h2⟩:=((h.set ⟨g,0,none⟩ v0).set ⟨g,1,none⟩ v1) 2 (by omega)
 obtain ⟨u3,h3⟩:=(((h.set ⟨g,0,none⟩ v0).set ⟨g,1,none⟩ v1).set ⟨g,2,none⟩ v2) 3 (by omega)
 refine ⟨?_,?_,?_,Zq _ _ _ h3⟩
 ·rw [zej (by omega),zej (by omega),zej (by omega)];exact Zq _ _ _ h0
 ·rw [zej (by omega),zej (by omega)];exact Zq _ _ _ h1
 ·rw [zej (by omega)];exact Zq _ _ _ h2
def Bx (w:World) (g:Nat) (v0 v1 v2 v3:Value):Prop :=
 (w.cell? ⟨g,0,none⟩=some v0/\w.cell? ⟨g,1,none⟩=some v1/\w.cell? ⟨g,2,none⟩=some v2/\w.cell? ⟨g,3,none⟩=some v3) /\
 w.frozen? ⟨g,0,none⟩=false/\w.frozen? ⟨g,1,none⟩=false/\w.frozen? ⟨g,2,none⟩=false/\w.frozen? ⟨g,3,none⟩=false
theorem Bx.new (w:World) (a b c d:Value) (t:TypeId):Bx (w.alloc (.cells #[a,b,c,d] t)) w.heap.size a b c d:=by
 have h1:(w.alloc (.cells #[a,b,c,d] t)).heap[w.heap.size]?=some (.cells #[a,b,c,d] t):=heap_alloc_new w _
 refine ⟨⟨?_,?_,?_,?_⟩,?_,?_,?_,?_⟩
 ·rw [cell_of_row _ w.heap.size 0 _ t (0,0) h1];rfl
 ·rw [cell_of_row _ w.heap.size 1 _ t (0,0) h1];rfl
 ·rw [cell_of_row _ w.heap.size 2 _ t (0,0) h1];rfl
 ·rw [cell_of_row _ w.heap.size 3 _ t (0,0) h1];rfl
 all_goals (simp only [World.frozen?];rw [h1];simp)
theorem Bx.ext {w w':World} {g:Nat} {a b c d:Value} (h:Bx w g a b c d) (hb:Ext w w'):Bx w' g a b c d:=by
 obtain ⟨⟨h0,h1,h2,h3⟩,f0,f1,f2,f3⟩:=h
 have hl:=Zn w _ h0
 exact ⟨⟨(Zl (p:=⟨g,0,none⟩) hb hl).trans h0,(Zl (p:=⟨g,1,none⟩) hb hl).trans h1,(Zl (p:=⟨g,2,none⟩) hb hl).trans h2,(Zl (p:=⟨g,3,none⟩) hb hl).trans h3⟩,
  (Below.frozen (p:=⟨g,0,none⟩) hb hl).trans f0,(Below.frozen (p:=⟨g,1,none⟩) hb hl).trans f1,(Below.frozen (p:=⟨g,2,none⟩) hb hl).trans f2,(Below.frozen (p:=⟨g,3,none⟩) hb hl).trans f3⟩
theorem Bx.alloc {w:World} {g:Nat} {a b c d:Value} (h:Bx w g a b c d) (o:Obj):Bx (w.alloc o) g a b c d:=h.ext ((Ze w).alloc o)
theorem Bx.set0 {w:World} {g:Nat} {a b c d:Value} (h:Bx w g a b c d) (v:Value):Bx (w.setCell ⟨g,0,none⟩ v) g v b c d:=by
 obtain ⟨⟨h0,h1,h2,h3⟩,f0,f1,f2,f3⟩:=h
 exact ⟨⟨Zq _ _ _ h0,(Zg _ _ _ _ (by simp)).trans h1,(Zg _ _ _ _ (by simp)).trans h2,(Zg _ _ _ _ (by simp)).trans h3⟩,
  (Zo _ _ _ _).trans f0,(Zo _ _ _ _).trans f1,(Zo _ _ _ _).trans f2,(Zo _ _ _ _).trans f3⟩
theorem Bx.set2 {w:World} {g:Nat} {a b c d:Value} (h:Bx w g a b c d) (v:Value):Bx (w.setCell ⟨g,2,none⟩ v) g a b v d:=by
 obtain ⟨⟨h0,h1,h2,h3⟩,f0,f1,f2,f3⟩:=h
 exact ⟨⟨(Zg _ _ _ _ (by simp)).trans h0,(Zg _ _ _ _ (by simp)).trans h1,Zq _ _ _ h2,(Zg _ _ _ _ (by simp)).trans h3⟩,
  (Zo _ _ _ _).trans f0,(Zo _ _ _ _).trans f1,(Zo _ _ _ _).trans f2,(Zo _ _ _ _).trans f3⟩
theorem Bx.set3 {w:World} {g:Nat} {a b c d:Value} (h:Bx w g a b c d) (v:Value):Bx (w.setCell ⟨g,3,none⟩ v) g a b c v:=by
 obtain ⟨⟨h0,h1,h2,h3⟩,f0,f1,f2,f3⟩:=h
 exact ⟨⟨(Zg _ _ _ _ (by simp)).trans h0,(Zg _ _ _ _ (by simp)).trans h1,(Zg _ _ _ _ (by simp)).trans h2,Zq _ _ _ h3⟩,
  (Zo _ _ _ _).trans f0,(Zo _ _ _ _).trans f1,(Zo _ _ _ _).trans f2,(Zo _ _ _ _).trans f3⟩
theorem Bx.has {w:World} {g:Nat} {a b c d:Value} (h:Bx w g a b c d):Has w g:=fun i hi=>by
 obtain ⟨⟨h0,h1,h2,h3⟩,_⟩:=h
 rcases i with _ | _ | _ | _ | i
 ·exact ⟨_,h0⟩
 ·exact ⟨_,h1⟩
 ·exact ⟨_,h2⟩
 ·exact ⟨_,h3⟩
 ·omega
theorem zbk {P:Program} {w:World} (ts:Array TypeId) (t:TypeId) (x y:Int):(Builtin.max_ ts t #[.int .i64 x,.int .i64 y]).run P w = .ok (.int .i64 (max x y)) w:=by
 rw [run_max_int2]
 congr 2
 split <;> omega
def letters:List UInt8:=[102,108,109,120,121,115,111,63]
theorem zcc (d:UInt8) (w:World) :
  Calls Tryz.prog 187 #[.string ⟨#[102,108,109,120,121,115,111,63]⟩,.int .u8 (d.toNat:Int)] w fun e w'=>e = .returned (.int .i64 (Lib.indexByte letters d))/\w'=w:=by
 refine (Tryz.strings_IndexByte ⟨#[102,108,109,120,121,115,111,63]⟩ (d.toNat:Int) w).mono ?_
 rintro e w' ⟨rfl,rfl⟩
 refine ⟨?_,rfl⟩
 have h:((d.toNat:Int).toNat).toUInt8=d:=by simp
 rw [h]
 rfl
theorem zaQ (l p:List UInt8) (w:World) :
  Calls Tryz.prog 185 #[.string ⟨l.toArray⟩,.string ⟨p.toArray⟩] w fun e w'=>e = .returned (.bool (p.isPrefixOf l))/\w'=w:=by
 refine (Tryz.strings_HasPrefix ⟨l.toArray⟩ ⟨p.toArray⟩ w).mono ?_
 rintro e w' ⟨rfl,rfl⟩
 exact ⟨by simp [Lib.hasPrefix],rfl⟩
theorem znT (l:List UInt8):Lib.trimPrefix l [47]=trimS l:=by
 unfold trimS
 rcases l with _ | ⟨x,t⟩
 ·rfl
 ·by_cases h:x=47
  ·subst h;rfl
  ·have h1:Lib.hasPrefix (x::t) [47]=false:=by
    simp [Lib.hasPrefix,List.isPrefixOf]
    exact fun e=>h e.symm
   rw [Lib.trimPrefix,h1]
   simp only [Bool.false_eq_true,if_false]
   split
   ·rename_i h2;simp at h2;exact absurd h2.1 h
   ·rfl
theorem znS (l:List UInt8) (w:World) :
  Calls Tryz.prog 182 #[.string ⟨l.toArray⟩,.string ⟨#[47]⟩] w fun e w'=>e = .returned (.string ⟨(trimS l).toArray⟩)/\w'=w:=by
 refine (Tryz.strings_TrimPrefix ⟨l.toArray⟩ ⟨#[47]⟩ w).mono ?_
 rintro e w' ⟨rfl,rfl⟩
 refine ⟨?_,rfl⟩
 rw [<-znT]
theorem zm9 (l:List UInt8):(numR l).2.length<=l.length:=by
 unfold numR
 split
 ·exact Zb _
 ·simp
theorem zlt (l:List UInt8):(trimS l).length<=l.length:=by
 unfold trimS
 split <;> simp
theorem exS {a b:World} (h:Ext a b:=by repeat (first | exact Ze _ | assumption | refine ZD ?_ _ | refine ZR ?_ | refine Ext.set ?_ (by simp) _ | refine Zm ?_ (by assumption))):Ext a b:=h
theorem zqZ (w:World):Calls Tryz.prog 87 #[.int .u8 0] w fun e w'=>e = .returned (.tuple #[.agg #[.string ⟨#[]⟩,.int .i64 0,.int .i64 0,.int .i64 0,.int .i64 0,.bool false,.int .i64 0,.int .i64 0],.bool false])/\Ext w w':=zap 0 (by omega) (by omega) w
theorem zkI {P:Program} {fn:Func} {R:Ending->World->Prop} {a:Act} {W9:World} {g:Nat} {c0 c1 c2 c3 v0 v1 v2 v3:Value} (hB:Bx W9 g c0 c1 c2 c3)
  (h:∀WF,(((W9.setCell ⟨g,0,none⟩ v0).setCell ⟨g,1,none⟩ v1).setCell ⟨g,2,none⟩ v2).setCell ⟨g,3,none⟩ v3=WF->(WF.cell? ⟨g,0,none⟩=some v0/\WF.cell? ⟨g,1,none⟩=some v1/\WF.cell? ⟨g,2,none⟩=some v2/\WF.cell? ⟨g,3,none⟩=some v3)->bodyPost P fn R .ret a WF) :
  bodyPost P fn R .ret a ((((W9.setCell ⟨g,0,none⟩ v0).setCell ⟨g,1,none⟩ v1).setCell ⟨g,2,none⟩ v2).setCell ⟨g,3,none⟩ v3):=h _ rfl (zsu hB.has rfl)
structure RdH (l R r:List UInt8) (d c:UInt8):Prop where
 hl:l.length<=100000
 hR:R.length+1=l.length
 hr:r.length+1=R.length
 hE:(l==[121,111])=false
 hP:[111,110].isPrefixOf l=false
 h0:∀h,(⟨l.toArray⟩:ByteArray)[0]'h=c
 hx:(⟨l.toArray⟩:ByteArray).extract 1 l.length=⟨R.toArray⟩
 h1:∀h,(⟨R.toArray⟩:ByteArray)[0]'h=d
 hx2:(⟨R.toArray⟩:ByteArray).extract 1 R.length=⟨r.toArray⟩
 hn:(numR R).1 = -1
theorem zhw (i k:Int) (h:(i,k)∈([(0,3),(1,4),(2,5),(3,6),(4,7),(5,8),(6,10),(7,0)]:List (Int×Int))) (W:World):(Instr.index 258 (.agg #[.int .u8 3,.int .u8 4,.int .u8 5,.int .u8 6,.int .u8 7,.int .u8 8,.int .u8 10,.int .u8 0]) (.int .i64 i)).run Tryz.prog W = .ok (.int .u8 k) W:=by
 simp only [Zx,Prod.mk.injEq,List.not_mem_nil,or_false] at h
 rcases h with ⟨rfl,rfl⟩ | ⟨rfl,rfl⟩ | ⟨rfl,rfl⟩ | ⟨rfl,rfl⟩ | ⟨rfl,rfl⟩ | ⟨rfl,rfl⟩ | ⟨rfl,rfl⟩ | ⟨rfl,rfl⟩ <;> simp [Instr.index,go_sem]
theorem zZ4 {p:Prop} (h:p:=by
 rw [hW9] at hB9 hX9 ⊢
 clear hW9 b0 b1 b2 b3 f0 f1 f2 f3
 have HX9:=Za hX9
 have HB9:=Za hB9
 obtain ⟨⟨b0,b1,b2,b3⟩,f0,f1,f2,f3⟩:=hB9
 clear hX9
 go_wp2
 refine zkI HB9.out fun WF hWF ⟨y0,y1,y2,y3⟩=>?_
 exact bodyPost_ret (v := .tuple #[.agg #[_,_,_,_],_]) (by simp [results,Tryz.f147,go_sem,y0,y1,y2,y3]) rfl ⟨rfl,by rw [<-hWF];exact ((((HX9.out.set (by simp) _).set (by simp) _).set (by simp) _).set (by simp) _)⟩):p:=h
theorem zfx (l R r:List UInt8) (d c:UInt8) (cv:Bool) (h:RdH l R r d c) (hc:c=107/\cv=false∨c=112/\cv=true) (i j k:Int) (hi:Lib.indexByte letters d=i) (hk:i=0/\j=0/\k=3∨i=1/\j=1/\k=4∨i=2/\j=2/\k=5∨i=6/\j=6/\k=10∨i = -1/\j=0/\k=3) (w:World) (hg:Glob w) :
  Calls Tryz.prog 147 #[.string ⟨l.toArray⟩] w fun e w'=>e = .returned (.tuple #[.agg #[.int .u8 k,.bool cv,.int .i64 (numR r).1,.int .i64 0],.int .i64 1])/\Ext w w':=by
 obtain ⟨hl,hR,hr,hE,hP,h0,hx,h1,hx2,hn⟩:=h
 have HG:=Za hg
 have HN:=Za hn
 have HP:=Za hP
 have q0:(0:Int)<(l.length:Int):=by omega
 have q1:(0:Int)<(R.length:Int):=by omega
 have q2:(1:Int)<=(l.length:Int):=by omega
 have q3:(1:Int)<=(R.length:Int):=by omega
 have l0:l.isEmpty=false:=by cases l with
  | nil=>simp at hR
  | cons _ _=>rfl
 have l1:R.isEmpty=false:=by cases R with
  | nil=>simp at hr
  | cons _ _=>rfl
 have HI:=Za hi
 have hix:=zhw j k (by rcases hk with ⟨rfl,rfl,rfl⟩ | ⟨rfl,rfl,rfl⟩ | ⟨rfl,rfl,rfl⟩ | ⟨rfl,rfl,rfl⟩ | ⟨rfl,rfl,rfl⟩ <;> simp)
 have hmx:∀(ts:Array TypeId) (t:TypeId) (W:World),(Builtin.max_ ts t #[.int .i64 0,.int .i64 i]).run Tryz.prog W = .ok (.int .i64 j) W:=fun ts t W=>(zbk ts t 0 i).trans (by rcases hk with ⟨rfl,rfl,rfl⟩ | ⟨rfl,rfl,rfl⟩ | ⟨rfl,rfl,rfl⟩ | ⟨rfl,rfl,rfl⟩ | ⟨rfl,rfl,rfl⟩ <;> rfl)
 clear hg hn hi hP
 rcases hk with ⟨rfl,rfl,rfl⟩ | ⟨rfl,rfl,rfl⟩ | ⟨rfl,rfl,rfl⟩ | ⟨rfl,rfl,rfl⟩ | ⟨rfl,rfl,rfl⟩ <;> rcases hc with ⟨rfl,rfl⟩ | ⟨rfl,rfl⟩
 all_goals
  go_enter Tryz.func147,Tryz.ntmps147
  go_upto_region 21 with (first
  | (go_at_call 185;((with_reducible refine (zaQ l [111,110] _).mono ?_);rintro e w1 ⟨rfl,rfl⟩;rw [HP.out]))
  | (go_at_call 187;((with_reducible refine (zcc d _).mono ?_);rintro e w3 ⟨rfl,rfl⟩;rw [HI.out]))
  | (go_at_call 186;(first | ((with_reducible refine (zaw R (by omega) _ (HG.out.ext exS)).mono ?_);rintro e w2 ⟨rfl,ad⟩;rw [HN.out];have aa:=Za ((Bx.new w _ _ _ _ _).ext ad);obtain ⟨⟨b0,b1,b2,b3⟩,f0,f1,f2,f3⟩:=aa.out) | ((with_reducible refine (zaw r (by omega) _ (HG.out.ext exS)).mono ?_);rintro e w5 ⟨rfl,hq5⟩;have ac:=Za ((ab.out.alloc _).ext hq5);have e5:=Zl (p:=⟨w4.heap.size,4,none⟩) hq5 (by simp);simp [go_sem] at e5;clear b0 b1 b2 b3 f0 f1 f2 f3;obtain ⟨⟨b0,b1,b2,b3⟩,f0,f1,f2,f3⟩:=ac.out)))
  | (go_at_call 87;((first | (with_reducible refine (zjQ _).mono ?_) | (with_reducible refine (zjR _).mono ?_) | (with_reducible refine (zjS _).mono ?_) | (with_reducible refine (zgp _).mono ?_));rintro e w4 ⟨rfl,ae⟩;have ab:=Za ((aa.out.set0 _).ext ae);clear b0 b1 b2 b3 f0 f1 f2 f3;obtain ⟨⟨b0,b1,b2,b3⟩,f0,f1,f2,f3⟩:=ab.out;have z4:=Zn w4 _ b0;simp only at z4;have z8:¬(w.heap.size=w4.heap.size):=(by omega))))
  have hB9:=ac.out.set2 (.int .i64 (numR r).1)
  have hX9:Ext w (w5.setCell ⟨w.heap.size,2,none⟩ (.int .i64 (numR r).1)):=exS
  obtain ⟨W9,hW9⟩:∃W9,w5.setCell ⟨w.heap.size,2,none⟩ (.int .i64 (numR r).1)=W9:=⟨_,rfl⟩
  exact zZ4
theorem zoH (l R r:List UInt8) (d c:UInt8) (cv:Bool) (h:RdH l R r d c) (hc:c=107/\cv=false∨c=112/\cv=true) (i j k:Int) (hi:Lib.indexByte letters d=i) (hk:i=3/\j=3/\k=6∨i=4/\j=4/\k=7) (w:World) (hg:Glob w) :
  Calls Tryz.prog 147 #[.string ⟨l.toArray⟩] w fun e w'=>e = .returned (.tuple #[.agg #[.int .u8 k,.bool cv,.int .i64 (numR r).1,.int .i64 (numR (trimS (numR r).2)).1],.int .i64 1])/\Ext w w':=by
 obtain ⟨hl,hR,hr,hE,hP,h0,hx,h1,hx2,hn⟩:=h
 have HG:=Za hg
 have HN:=Za hn
 have HP:=Za hP
 have q0:(0:Int)<(l.length:Int):=by omega
 have q1:(0:Int)<(R.length:Int):=by omega
 have q2:(1:Int)<=(l.length:Int):=by omega
 have q3:(1:Int)<=(R.length:Int):=by omega
 have l0:l.isEmpty=false:=by cases l with
  | nil=>simp at hR
  | cons _ _=>rfl
 have l1:R.isEmpty=false:=by cases R with
  | nil=>simp at hr
  | cons _ _=>rfl
 have HI:=Za hi
 have hix:=zhw j k (by rcases hk with ⟨rfl,rfl,rfl⟩ | ⟨rfl,rfl,rfl⟩ <;> simp)
 have hmx:∀(ts:Array TypeId) (t:TypeId) (W:World),(Builtin.max_ ts t #[.int .i64 0,.int .i64 i]).run Tryz.prog W = .ok (.int .i64 j) W:=fun ts t W=>(zbk ts t 0 i).trans (by rcases hk with ⟨rfl,rfl,rfl⟩ | ⟨rfl,rfl,rfl⟩ <;> rfl)
 clear hg hn hi hP
 rcases hk with ⟨rfl,rfl,rfl⟩ | ⟨rfl,rfl,rfl⟩ <;> rcases hc with ⟨rfl,rfl⟩ | ⟨rfl,rfl⟩
 all_goals
  go_enter Tryz.func147,Tryz.ntmps147
  go_upto_region 21 with (first
  | (go_at_call 185;((with_reducible refine (zaQ l [111,110] _).mono ?_);rintro e w1 ⟨rfl,rfl⟩;rw [HP.out]))
  | (go_at_call 187;((with_reducible refine (zcc d _).mono ?_);rintro e w3 ⟨rfl,rfl⟩;rw [HI.out]))
  | (go_at_call 186;(first | ((with_reducible refine (zaw R (by omega) _ (HG.out.ext exS)).mono ?_);rintro e w2 ⟨rfl,ae⟩;rw [HN.out];have aa:=Za ((Bx.new w _ _ _ _ _).ext ae);obtain ⟨⟨b0,b1,b2,b3⟩,f0,f1,f2,f3⟩:=aa.out) | ((with_reducible refine (zaw r (by omega) _ (HG.out.ext exS)).mono ?_);rintro e w5 ⟨rfl,hq5⟩;have ac:=Za ((ab.out.alloc _).ext hq5);have e5:=Zl (p:=⟨w4.heap.size,4,none⟩) hq5 (by simp);simp [go_sem] at e5;clear b0 b1 b2 b3 f0 f1 f2 f3;obtain ⟨⟨b0,b1,b2,b3⟩,f0,f1,f2,f3⟩:=ac.out) | ((with_reducible refine (zaw (trimS (numR r).2) (by have:=zm9 r;have:=zlt (numR r).2;omega) _ (HG.out.ext exS)).mono ?_);rintro e w7 ⟨rfl,ag⟩;have ad:=Za ((ac.out.set2 _).ext ag);clear b0 b1 b2 b3 f0 f1 f2 f3;obtain ⟨⟨b0,b1,b2,b3⟩,f0,f1,f2,f3⟩:=ad.out)))
  | (go_at_call 87;((first | (with_reducible refine (zjT _).mono ?_) | (with_reducible refine (zjU _).mono ?_));rintro e w4 ⟨rfl,af⟩;have ab:=Za ((aa.out.set0 _).ext af);clear b0 b1 b2 b3 f0 f1 f2 f3;obtain ⟨⟨b0,b1,b2,b3⟩,f0,f1,f2,f3⟩:=ab.out;have z4:=Zn w4 _ b0;simp only at z4;have z8:¬(w.heap.size=w4.heap.size):=(by omega)))
  | (go_at_call 182;((with_reducible refine (znS (numR r).2 _).mono ?_);rintro e w6 ⟨rfl,rfl⟩)))
  have hB9:=ad.out.set3 (.int .i64 (numR (trimS (numR r).2)).1)
  have hX9:Ext w (w7.setCell ⟨w.heap.size,3,none⟩ (.int .i64 (numR (trimS (numR r).2)).1)):=exS
  obtain ⟨W9,hW9⟩:∃W9,w7.setCell ⟨w.heap.size,3,none⟩ (.int .i64 (numR (trimS (numR r).2)).1)=W9:=⟨_,rfl⟩
  exact zZ4
theorem zrv (l R r:List UInt8) (d c:UInt8) (cv:Bool) (h:RdH l R r d c) (hc:c=107/\cv=false∨c=112/\cv=true) (hi:Lib.indexByte letters d=5) (w:World) (hg:Glob w) :
  Calls Tryz.prog 147 #[.string ⟨l.toArray⟩] w fun e w'=>e = .returned (.tuple #[.agg #[.int .u8 8,.bool cv,.int .i64 0,.int .i64 0],.int .i64 1])/\Ext w w':=by
 obtain ⟨hl,hR,hr,hE,hP,h0,hx,h1,hx2,hn⟩:=h
 have HG:=Za hg
 have HN:=Za hn
 have HP:=Za hP
 have q0:(0:Int)<(l.length:Int):=by omega
 have q1:(0:Int)<(R.length:Int):=by omega
 have q2:(1:Int)<=(l.length:Int):=by omega
 have q3:(1:Int)<=(R.length:Int):=by omega
 have l0:l.isEmpty=false:=by cases l with
  | nil=>simp at hR
  | cons _ _=>rfl
 have l1:R.isEmpty=false:=by cases R with
  | nil=>simp at hr
  | cons _ _=>rfl
 have HI:=Za hi
 have hix:=zhw 5 8 (by simp)
 have hmx:∀(ts:Array TypeId) (t:TypeId) (W:World),(Builtin.max_ ts t #[.int .i64 0,.int .i64 5]).run Tryz.prog W = .ok (.int .i64 5) W:=fun ts t W=>zbk ts t 0 5
 clear hg hn hi hP
 rcases hc with ⟨rfl,rfl⟩ | ⟨rfl,rfl⟩
 all_goals
  go_enter Tryz.func147,Tryz.ntmps147
  go_upto_region 21 with (first
  | (go_at_call 185;((with_reducible refine (zaQ l [111,110] _).mono ?_);rintro e w1 ⟨rfl,rfl⟩;rw [HP.out]))
  | (go_at_call 187;((with_reducible refine (zcc d _).mono ?_);rintro e w3 ⟨rfl,rfl⟩;rw [HI.out]))
  | (go_at_call 186;(first | ((with_reducible refine (zaw R (by omega) _ (HG.out.ext exS)).mono ?_);rintro e w2 ⟨rfl,ac⟩;rw [HN.out];have aa:=Za ((Bx.new w _ _ _ _ _).ext ac);obtain ⟨⟨b0,b1,b2,b3⟩,f0,f1,f2,f3⟩:=aa.out)))
  | (go_at_call 87;((first | (with_reducible refine (zjV _).mono ?_));rintro e w4 ⟨rfl,ad⟩;have ab:=Za ((aa.out.set0 _).ext ad);clear b0 b1 b2 b3 f0 f1 f2 f3;obtain ⟨⟨b0,b1,b2,b3⟩,f0,f1,f2,f3⟩:=ab.out;have z4:=Zn w4 _ b0;simp only at z4;have z8:¬(w.heap.size=w4.heap.size):=(by omega))))
  have hB9:=ab.out.alloc (.cells #[.string ⟨#[115]⟩,.int .i64 0,.int .i64 0,.int .i64 0,.int .i64 0,.bool true,.int .i64 1,.int .i64 1] 134)
  have hX9:Ext w (w4.alloc (.cells #[.string ⟨#[115]⟩,.int .i64 0,.int .i64 0,.int .i64 0,.int .i64 0,.bool true,.int .i64 1,.int .i64 1] 134)):=exS
  obtain ⟨W9,hW9⟩:∃W9,w4.alloc (.cells #[.string ⟨#[115]⟩,.int .i64 0,.int .i64 0,.int .i64 0,.int .i64 0,.bool true,.int .i64 1,.int .i64 1] 134)=W9:=⟨_,rfl⟩
  exact zZ4
theorem zru (l R r:List UInt8) (d c:UInt8) (cv:Bool) (h:RdH l R r d c) (hc:c=107/\cv=false∨c=112/\cv=true) (hi:Lib.indexByte letters d=7) (w:World) (hg:Glob w) :
  Calls Tryz.prog 147 #[.string ⟨l.toArray⟩] w fun e w'=>e = .returned (.tuple #[.agg #[.int .u8 0,.bool cv,.int .i64 0,.int .i64 0],.int .i64 1])/\Ext w w':=by
 obtain ⟨hl,hR,hr,hE,hP,h0,hx,h1,hx2,hn⟩:=h
 have HG:=Za hg
 have HN:=Za hn
 have HP:=Za hP
 have q0:(0:Int)<(l.length:Int):=by omega
 have q1:(0:Int)<(R.length:Int):=by omega
 have q2:(1:Int)<=(l.length:Int):=by omega
 have q3:(1:Int)<=(R.length:Int):=by omega
 have l0:l.isEmpty=false:=by cases l with
  | nil=>simp at hR
  | cons _ _=>rfl
 have l1:R.isEmpty=false:=by cases R with
  | nil=>simp at hr
  | cons _ _=>rfl
 have HI:=Za hi
 have hix:=zhw 7 0 (by simp)
 have hmx:∀(ts:Array TypeId) (t:TypeId) (W:World),(Builtin.max_ ts t #[.int .i64 0,.int .i64 7]).run Tryz.prog W = .ok (.int .i64 7) W:=fun ts t W=>zbk ts t 0 7
 clear hg hn hi hP
 rcases hc with ⟨rfl,rfl⟩ | ⟨rfl,rfl⟩
 all_goals
  go_enter Tryz.func147,Tryz.ntmps147
  go_upto_region 21 with (first
  | (go_at_call 185;((with_reducible refine (zaQ l [111,110] _).mono ?_);rintro e w1 ⟨rfl,rfl⟩;rw [HP.out]))
  | (go_at_call 187;((with_reducible refine (zcc d _).mono ?_);rintro e w3 ⟨rfl,rfl⟩;rw [HI.out]))
  | (go_at_call 186;(first | ((with_reducible refine (zaw R (by omega) _ (HG.out.ext exS)).mono ?_);rintro e w2 ⟨rfl,ac⟩;rw [HN.out];have aa:=Za ((Bx.new w _ _ _ _ _).ext ac);obtain ⟨⟨b0,b1,b2,b3⟩,f0,f1,f2,f3⟩:=aa.out)))
  | (go_at_call 87;((first | (with_reducible refine (zqZ _).mono ?_));rintro e w4 ⟨rfl,ad⟩;have ab:=Za ((aa.out.set0 _).ext ad);clear b0 b1 b2 b3 f0 f1 f2 f3;obtain ⟨⟨b0,b1,b2,b3⟩,f0,f1,f2,f3⟩:=ab.out;have z4:=Zn w4 _ b0;simp only at z4;have z8:¬(w.heap.size=w4.heap.size):=(by omega))))
  have hB9:=ab.out.alloc (.cells #[.string ⟨#[]⟩,.int .i64 0,.int .i64 0,.int .i64 0,.int .i64 0,.bool false,.int .i64 0,.int .i64 0] 134)
  have hX9:Ext w (w4.alloc (.cells #[.string ⟨#[]⟩,.int .i64 0,.int .i64 0,.int .i64 0,.int .i64 0,.bool false,.int .i64 0,.int .i64 0] 134)):=exS
  obtain ⟨W9,hW9⟩:∃W9,w4.alloc (.cells #[.string ⟨#[]⟩,.int .i64 0,.int .i64 0,.int .i64 0,.int .i64 0,.bool false,.int .i64 0,.int .i64 0] 134)=W9:=⟨_,rfl⟩
  exact zZ4
end Go.Proofs.YtbjgpbojjhldaaaGreatDoor
