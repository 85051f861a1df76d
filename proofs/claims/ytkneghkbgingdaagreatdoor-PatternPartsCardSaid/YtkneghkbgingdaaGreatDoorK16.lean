/- The reader of terms: its state; take and until. -/
import Derived.Test.YtkneghkbgingdaaGreatDoorK15
import Derived.Lib.AtoiTie
set_option maxHeartbeats 16000000
namespace Go.Proofs.YtkneghkbgingdaaGreatDoor
set_option maxRecDepth 100000
open Go.RowKit Go.ChangeShapes Go.WideShapes Go.Joins
def atoiO (l:List UInt8):Option Int:=match Lib.atoiAll l with
 | .ok v=>some v
 | _=>none
theorem zdT {l:List UInt8} {v:Int} (h:atoiO l=some v) (hl:l.length≤1000000) (w:World) :
  Calls Tryz.prog 114 #[.string ⟨l.toArray⟩] w fun e w'=>e = .returned (.tuple #[.int .i64 v,.nilIface])∧Ext w w':=by
 have h1:Lib.atoiAll l = .ok v:=by
  unfold atoiO at h
  split at h
  ·rename_i v' h2
   cases h
   exact h2
  ·cases h
 refine (Tryz.strconv_Atoi_ok ⟨l.toArray⟩ (by rw [zaH];omega) v (by rw [zaG];exact h1) w).mono ?_
 rintro e w' ⟨rfl,h2⟩
 refine ⟨rfl,?_⟩
 rcases h2 with rfl | ⟨t,rfl⟩
 ·exact Zd _
 ·exact Lib.bytesWorld_below _ _ _
theorem zfE {l:List UInt8} (h:atoiO l=none) (hl:l.length≤1000000) (w:World) (hg:Glob w) :
  Calls Tryz.prog 114 #[.string ⟨l.toArray⟩] w fun e w'=>∃(v:Int) (te:TypeId) (p:Addr),e = .returned (.tuple #[.int .i64 v,.iface te (.pointer (some p))])∧Ext w w':=by
 cases h1:Lib.atoiAll l
 ·unfold atoiO at h
  rw [h1] at h
  cases h
 ·obtain ⟨tp,p,hv⟩:=hg.syn
  refine (Any.strconv_Atoi_syntax_var Tryz.laysC172 ⟨l.toArray⟩ (by rw [zaH];omega) (by rw [zaG];exact h1) tp p w hv).mono ?_
  rintro e w' ⟨N,rfl,_,_,hb⟩
  exact ⟨_,_,_,rfl,hb⟩
 ·obtain ⟨tp,p,hv⟩:=hg.rng
  refine (Tryz.strconv_Atoi_range_var ⟨l.toArray⟩ (by rw [zaH];omega) (by rw [zaG];exact h1) tp p w hv).mono ?_
  rintro e w' ⟨N,rfl,_,_,hb⟩
  exact ⟨_,_,_,rfl,hb⟩
def atOk (k:Nat):Bool:=decide (atoiO (decD k)=some (k:Int))
theorem znh:(List.range 201).all atOk=true:=by decide +kernel
theorem zng:∀k:Nat,2≤k→k≤200→atoiO (decD k)=some (k:Int):=fun k _ h2=>by
 have h1:=Zq.1 znh k (ZE.2 (by omega))
 simpa [atOk] using h1
def Asc (_:List UInt8):Prop:=True
theorem Asc.suf {s r:List UInt8} (_:Asc s) (_:r <:+ s):Asc r:=trivial
theorem zm5 (x:UInt8):([32,40,41,42]:List UInt8).contains x=isStop x:=by
 unfold isStop
 simp only [List.contains_cons,List.contains_nil,Bool.or_false,Bool.or_assoc]
theorem zbp:∀s:List UInt8,(untilS s).1++(untilS s).2=s:=by
 intro s
 induction s with
 | nil=>rfl
 | cons x l ih =>
  rw [untilS]
  split
  ·rfl
  ·simp [ih]
theorem zaN (s:List UInt8):(untilS s).2 <:+ s:=⟨(untilS s).1,zbp s⟩
theorem zly (s:List UInt8):Lib.indexAny s [32,40,41,42]=if (untilS s).2=[] then -1 else ((untilS s).1.length:Int):=by
 induction s with
 | nil=>rfl
 | cons x l ih =>
  rw [Lib.indexAny,zm5,untilS]
  by_cases h:isStop x=true
  ·rw [if_pos h,if_pos h]
   simp
  ·rw [if_neg h,if_neg h,ih]
   by_cases h2:(untilS l).2=[]
   ·simp [h2]
   ·rw [if_neg h2]
    simp only [h2,if_false]
    have:¬(((untilS l).1.length:Int) == -1)=true:=by simp
    rw [if_neg this]
    simp
def RdAt (w:World) (g:Nat) (s:List UInt8) (d:Int):Prop:=w.heap[g]?=some (.cells #[.string ⟨s.toArray⟩,.int .i64 d] 206 (0,0))
theorem RdAt.ext {w w':World} {g:Nat} {s:List UInt8} {d:Int} (h:RdAt w g s d) (hb:Ext w w'):RdAt w' g s d:=by
 unfold RdAt
 rw [hb.block g (Zn.1 h).1]
 exact h
theorem RdAt.lt {w:World} {g:Nat} {s:List UInt8} {d:Int} (h:RdAt w g s d):g<w.heap.size:=(Zn.1 h).1
theorem RdAt.facts {w:World} {g:Nat} {s:List UInt8} {d:Int} (h:RdAt w g s d):w.cell? ⟨g,0,none⟩=some (.string ⟨s.toArray⟩)∧w.cell? ⟨g,1,none⟩=some (.int .i64 d)∧w.frozen? ⟨g,0,none⟩=false∧w.frozen? ⟨g,1,none⟩=false∧g<w.heap.size :=
 ⟨by rw [cell_of_row w g _ _ _ (0,0) h];rfl,by rw [cell_of_row w g _ _ _ (0,0) h];rfl,frozen_of_row w g _ _ _ h,frozen_of_row w g _ _ _ h,h.lt⟩
theorem RdAt.set0 {w:World} {g:Nat} {s:List UInt8} {d:Int} (h:RdAt w g s d) (r:List UInt8):RdAt (w.setCell ⟨g,0,none⟩ (.string ⟨r.toArray⟩)) g r d:=heap_setCell_same w g 0 _ _ _ h
theorem RdAt.set1 {w:World} {g:Nat} {s:List UInt8} {d:Int} (h:RdAt w g s d) (e:Int):RdAt (w.setCell ⟨g,1,none⟩ (.int .i64 e)) g s e:=heap_setCell_same w g 1 _ _ _ h
def hitB (x:UInt8):List UInt8→Bool
 | []=>false
 | y::_=>y==x
def hitR (x:UInt8):List UInt8→List UInt8
 | []=>[]
 | y::r=>if y==x then r else y::r
def TakeR (g:Nat) (x:UInt8) (s:List UInt8) (d:Int) (w:World) (e:Ending) (w':World):Prop:=e = .returned (.bool (hitB x s))∧RdAt w' g (hitR x s) d∧But (some g) w w'
theorem zd5 (x:UInt8) (s:List UInt8):hitR x s <:+ s:=by
 cases s with
 | nil=>exact List.suffix_refl _
 | cons y r =>
  rw [hitR]
  split
  ·exact ⟨[y],rfl⟩
  ·exact List.suffix_refl _
theorem zcZ (x:UInt8) (c:Int) (hc:(x.toNat:Int)=c) (g:Nat) (s:List UInt8) (d:Int) (w:World) (h:RdAt w g s d) (hl:s.length≤100000) :
  Calls Tryz.prog 175 #[.pointer (some ⟨g,0,none⟩),.int .u8 c] w (TakeR g x s d w):=by
 have HR:=Za h
 obtain ⟨c0,c1,f0,f1,hz⟩:=h.facts
 clear h
 cases s with
 | nil =>
  go_enter Tryz.func175,Tryz.ntmps175
  go_wp2_with fail
  go_ret
  exact ⟨rfl,HR.out.ext zx,But.of_ext zx _⟩
 | cons y r =>
  have hn:((((y::r).length:Nat):Int)==0)=false:=by rw [Ze];simp;omega
  have hi:∀h:0<(y::r).length,(⟨(y::r).toArray⟩:ByteArray)[0]'(by rw [zaH];exact h)=y:=fun _=>rfl
  by_cases hx:y=x
  ·subst hx
   subst hc
   have HH:=Za (show hitB y (y::r)=true∧hitR y (y::r)=r by simp [hitB,hitR])
   have hex:(⟨(y::r).toArray⟩:ByteArray).extract 1 (r.length+1)=⟨r.toArray⟩:=zah (y::r) 1 (r.length+1) (by simp)
   go_enter Tryz.func175,Tryz.ntmps175
   go_wp2_with fail
   go_ret
   exact ⟨by rw [HH.out.1];rfl,by rw [HH.out.2];exact HR.out.set0 r,(But.refl _ _).own rfl _⟩
  ·have HH:=Za (show hitB x (y::r)=false∧hitR x (y::r)=y::r by simp [hitB,hitR,hx])
   have hne:(((y.toNat:Nat):Int) != c)=true:=by
    rw [←hc]
    simp
    intro e
    apply hx
    exact ZX.1 (by omega)
   go_enter Tryz.func175,Tryz.ntmps175
   go_wp2_with fail
   go_ret
   exact ⟨by rw [HH.out.1];rfl,by rw [HH.out.2];exact HR.out,But.refl _ _⟩
theorem zmq (s:List UInt8) (_:Asc s) (hl:s.length≤100000) (w:World) :
  Calls Tryz.prog 195 #[.string ⟨s.toArray⟩,.string ⟨#[32,40,41,42]⟩] w fun e w'=>e = .returned (.int .i64 (if (untilS s).2=[] then -1 else ((untilS s).1.length:Int)))∧Ext w w':=by
 have h:=zkG s (by omega) w
 rw [zly] at h
 exact h
def UntilR (g:Nat) (s:List UInt8) (d:Int) (w:World) (e:Ending) (w':World):Prop:=e = .returned (.string ⟨(untilS s).1.toArray⟩)∧RdAt w' g (untilS s).2 d∧But (some g) w w'
theorem zaM (g:Nat) (s:List UInt8) (d:Int) (w:World) (h:RdAt w g s d) (ha:Asc s) (hl:s.length≤100000) :
  Calls Tryz.prog 189 #[.pointer (some ⟨g,0,none⟩),.string ⟨#[32,40,41,42]⟩] w (UntilR g s d w):=by
 have HR:=Za h
 obtain ⟨c0,c1,f0,f1,hz⟩:=h.facts
 have HI:=Za (fun (w':World)=>zmq s ha hl w')
 clear h ha
 have happ:=zbp s
 obtain ⟨X,hX⟩:∃X,(untilS s).1=X:=⟨_,rfl⟩
 obtain ⟨Y,hY⟩:∃Y,(untilS s).2=Y:=⟨_,rfl⟩
 rw [hX,hY] at happ
 by_cases h0:Y=[]
 ·subst h0
  rw [ZH] at happ
  subst happ
  have HXY:=Za (And.intro hX hY)
  have HI2:=Za (fun (w':World)=>(show Calls Tryz.prog 195 #[.string ⟨X.toArray⟩,.string ⟨#[32,40,41,42]⟩] w' fun e w''=>e = .returned (.int .i64 (-1))∧Ext w' w'' from by
   have h9:=HI.out w'
   rw [hY,if_pos rfl] at h9
   exact h9))
  have e0:(⟨X.toArray⟩:ByteArray).extract 0 X.length=⟨X.toArray⟩:=by rw [zap,Zz (Zf _)]
  have e1:(⟨X.toArray⟩:ByteArray).extract X.length X.length=⟨([]:List UInt8).toArray⟩:=by rw [zah X X.length X.length (Zf _),Z5 (Zf _)]
  clear hX hY HI
  go_enter Tryz.func189,Tryz.ntmps189
  go_wp2_with (first
   | (go_at_call 195;((with_reducible refine (HI2.out _).mono ?_);rintro e w1 ⟨rfl,hq1⟩;obtain ⟨x0,x1,x2,x3,x4⟩:=(HR.out.ext hq1).facts;have HQ:=Za hq1)))
  go_ret
  exact ⟨by rw [HXY.out.1];rfl,by rw [HXY.out.2];exact (HR.out.ext HQ.out).set0 [],(But.of_ext HQ.out _).own rfl _⟩
 ·have hlen:s.length=X.length+Y.length:=by rw [←happ,Zh]
  have HXY:=Za (And.intro hX hY)
  have HI2:=Za (fun (w':World)=>(show Calls Tryz.prog 195 #[.string ⟨s.toArray⟩,.string ⟨#[32,40,41,42]⟩] w' fun e w''=>e = .returned (.int .i64 (X.length:Int))∧Ext w' w'' from by
   have h9:=HI.out w'
   rw [hY,if_neg h0,hX] at h9
   exact h9))
  have e0:(⟨s.toArray⟩:ByteArray).extract 0 X.length=⟨X.toArray⟩:=by rw [zap,←happ,List.take_left]
  have e1:(⟨s.toArray⟩:ByteArray).extract X.length (X.length+Y.length)=⟨Y.toArray⟩:=by rw [zah s X.length (X.length+Y.length) (by omega),←happ,List.drop_left]
  have b1:(X.length:Int)≤(s.length:Int):=by omega
  have b2:(0:Int)≤(X.length:Int):=by omega
  have b3:¬((X.length:Int)<0):=by omega
  clear hX hY HI happ h0
  go_enter Tryz.func189,Tryz.ntmps189
  go_wp2_with (first
   | (go_at_call 195;((with_reducible refine (HI2.out _).mono ?_);rintro e w1 ⟨rfl,hq1⟩;obtain ⟨x0,x1,x2,x3,x4⟩:=(HR.out.ext hq1).facts;have HQ:=Za hq1)))
  go_ret
  exact ⟨by rw [HXY.out.1];rfl,by rw [HXY.out.2];exact (HR.out.ext HQ.out).set0 Y,(But.of_ext HQ.out _).own rfl _⟩
end Go.Proofs.YtkneghkbgingdaaGreatDoor
/- The library's functions that the readers of patterns call;number. -/
namespace Go.Proofs.YtkneghkbgingdaaGreatDoor
set_option maxRecDepth 100000
open Go.RowKit
theorem zeM:∀k:Nat,k≤100000→atoiO (decD k)=some (k:Int):=by
 intro k h
 have h1:=zeR (n:=k) (by omega)
 have h2:(decD k).all isDg=true:=Zq.2 (zdZ k)
 have h3:decD k≠[]:=by
  intro e
  have h9:=zkR (n:=k) (by omega)
  rw [e] at h9
  simp [num7] at h9
 unfold atoiO
 rw [Lib.atoiAll_short _ (by omega),zc5 h2 h3,zgC (by omega)]
 rfl
def cutB (c:UInt8):List UInt8→List UInt8×List UInt8×Bool
 | []=>([],[],false)
 | x::l=>if x=c then ([],l,true) else (x::(cutB c l).1,(cutB c l).2.1,(cutB c l).2.2)
theorem zlH (c:UInt8):∀l:List UInt8,(cutB c l).1=(cutA c l).1∧(cutB c l).2.1=(cutA c l).2:=by
 intro l
 induction l with
 | nil=>exact ⟨rfl,rfl⟩
 | cons x l ih =>
  rw [cutB,cutA]
  by_cases h:x=c
  ·rw [if_pos h,if_pos h]
   exact ⟨rfl,rfl⟩
  ·rw [if_neg h,if_neg h,ih.1,ih.2]
   exact ⟨rfl,rfl⟩
theorem zke (c:UInt8):∀(l:List UInt8),Lib.cut l [c]=cutB c l:=by
 intro l
 rw [Lib.cut]
 induction l with
 | nil=>rfl
 | cons x l ih =>
  rw [zbw,cutB]
  by_cases hx:x=c
  ·subst hx
   simp
  ·have hcx:¬c=x:=fun e=>hx e.symm
   rw [if_neg hcx,if_neg hx]
   rw [←ih]
   rcases Lib.index_spec l [c] with ⟨hm,_⟩ | ⟨i,hm,_⟩
   ·rw [hm];rfl
   ·rw [hm]
    have h1:((i:Int) == -1)=false:=by rw [Ze];omega
    have h2:¬((i:Int)+1<0):=by omega
    simp [h1]
    omega
theorem zdY (c:UInt8):∀l:List UInt8,(cutA c l).1.length≤l.length∧(cutA c l).2.length≤l.length:=by
 intro l
 induction l with
 | nil=>exact ⟨Zf _,Zf _⟩
 | cons x l ih =>
  rw [cutA]
  split
  ·simp
  ·simp only [Zk]
   omega
theorem zdX (c:UInt8) (l:List UInt8) (hl:l.length≤1000000) (w:World) (hg:Glob w) :
  Calls Tryz.prog 45 #[.string ⟨l.toArray⟩,.string ⟨#[c]⟩] w fun e w'=>∃b,e = .returned (.tuple #[.string ⟨(cutA c l).1.toArray⟩,.string ⟨(cutA c l).2.toArray⟩,.bool b])∧Ext w w':=by
 obtain ⟨m,hm⟩:=hg.max
 refine (Tryz.strings_Cut ⟨l.toArray⟩ ⟨#[c]⟩ m w (by rw [zaH];omega) hm).mono ?_
 rintro e w' ⟨rfl,n,rfl⟩
 refine ⟨(cutB c l).2.2,?_,(Zd _).drewN n⟩
 have h:=zke c l
 rw [show (⟨l.toArray⟩:ByteArray).data.toList=l from zaG l,show (⟨#[c]⟩:ByteArray).data.toList=[c] from rfl,h,(zlH c l).1,(zlH c l).2]
theorem zdz (l:List UInt8) (w:World) :
  Calls Tryz.prog 78 #[.string ⟨l.toArray⟩,.string ⟨#[97,103,97,105,110,32]⟩] w fun e w'=>e = .returned (.tuple #[.string ⟨(if l.take 6=agnB then l.drop 6 else l).toArray⟩,.bool (decide (l.take 6=agnB))])∧w'=w:=by
 refine (Tryz.strings_CutPrefix ⟨l.toArray⟩ ⟨#[97,103,97,105,110,32]⟩ w).mono ?_
 rintro e w' ⟨rfl,rfl⟩
 refine ⟨?_,rfl⟩
 have e1:(⟨l.toArray⟩:ByteArray).data.toList=l:=zaG l
 have e2:(⟨#[97,103,97,105,110,32]⟩:ByteArray).data.toList=agnB:=rfl
 have e3:Lib.hasPrefix l agnB=decide (l.take 6=agnB):=by
  rw [Lib.hasPrefix,Bool.eq_iff_iff,List.isPrefixOf_iff_prefix,List.prefix_iff_eq_take,Zx]
  exact eq_comm
 rw [e1,e2,Lib.trimPrefix,e3]
 by_cases h:l.take 6=agnB
 ·rw [Z8 h,if_pos rfl,if_pos h]
  rfl
 ·rw [ZS h,if_neg (by decide),if_neg h]
theorem zgj (l:List UInt8) (hl:l.length≤1000000) (w:World) :
  Calls Tryz.prog 51 #[.string ⟨l.toArray⟩,.string ⟨#[10]⟩] w fun e w'=>e = .returned (.string ⟨(if l.getLast?=some 10 then l.dropLast else l).toArray⟩)∧w'=w:=by
 refine (Tryz.strings_TrimSuffix ⟨l.toArray⟩ ⟨#[10]⟩ w (by rw [zaH];omega)).mono ?_
 rintro e w' ⟨rfl,rfl⟩
 refine ⟨?_,rfl⟩
 have e1:(⟨l.toArray⟩:ByteArray).data.toList=l:=zaG l
 have e2:(⟨#[10]⟩:ByteArray).data.toList=[10]:=rfl
 have e3:Lib.hasSuffix l [10]=decide (l.getLast?=some 10):=by
  rw [Lib.hasSuffix,Bool.eq_iff_iff,List.isSuffixOf_iff_suffix,Zx]
  constructor
  ·rintro ⟨t,rfl⟩
   simp
  ·intro h
   obtain ⟨ys,e⟩:=List.getLast?_eq_some_iff.1 h
   exact ⟨ys,e.symm⟩
 rw [e1,e2,Lib.trimSuffix,e3]
 by_cases h:l.getLast?=some 10
 ·rw [Z8 h,if_pos rfl,if_pos h,List.dropLast_eq_take]
  rfl
 ·rw [ZS h,if_neg (by decide),if_neg h]
theorem zaC (l:List UInt8) (hl:l.length≤1000000) (w:World) (hg:Glob w) :
  Calls Tryz.prog 79 #[.string ⟨l.toArray⟩] w fun e w'=>e = .returned (.int .i64 (numP atoiO l))∧Ext w w':=by
 cases ha:atoiO l with
 | none =>
  have HN:=Za (show numP atoiO l = -1 by rw [numP,ha])
  have HAT:=Za (fun (w':World) (hg':Glob w')=>zfE ha hl w' hg')
  have HG:=Za hg
  clear ha hg hl
  go_enter Tryz.func79,Tryz.ntmps79
  go_wp2_with (first
   | (go_at_call 114;(((with_reducible refine (HAT.out _ (HG.out.ext zx)).mono ?_);rintro e w3 ⟨v,te,pe,rfl,hq3⟩))))
  go_ret
  exact ⟨by rw [HN.out];rfl,zx⟩
 | some v =>
  have HAT:=Za (fun (w':World)=>zdT ha hl w')
  by_cases hv:v<0
  ·have HN:=Za (show numP atoiO l = -1 by rw [numP,ha];simp only;rw [if_pos hv])
   clear ha hg hl
   go_enter Tryz.func79,Tryz.ntmps79
   go_wp2_with (first
    | (go_at_call 114;(((with_reducible refine (HAT.out _).mono ?_);rintro e w3 ⟨rfl,hq3⟩))))
   go_ret
   exact ⟨by rw [HN.out];rfl,zx⟩
  ·have HN:=Za (show numP atoiO l=v by rw [numP,ha];simp only;rw [if_neg hv])
   clear ha hg hl
   go_enter Tryz.func79,Tryz.ntmps79
   go_wp2_with (first
    | (go_at_call 114;(((with_reducible refine (HAT.out _).mono ?_);rintro e w3 ⟨rfl,hq3⟩))))
   go_ret
   exact ⟨by rw [HN.out];rfl,zx⟩
end Go.Proofs.YtkneghkbgingdaaGreatDoor
/- The reference's Parse of patterns,plain: it accepts just what is written;so both read the same. -/
namespace Go.Proofs.YtkneghkbgingdaaGreatDoor
set_option maxRecDepth 100000
section
variable {at_:List UInt8→Option Int} (hat:∀k:Nat,k≤100000→at_ (decD k)=some (k:Int))
include hat
end
end Go.Proofs.YtkneghkbgingdaaGreatDoor
/- Patterns,plain: what Text returns;one of the sections alone. -/
namespace Go.Proofs.YtkneghkbgingdaaGreatDoor
set_option maxRecDepth 100000
def ptxE (nm:List UInt8) (ge:Int) (g1 g2 g3 g4:Int) (st:List Stf) (se:List Sec):Int:=if patE nm ge st se≠0 then patE nm ge st se else match patX nm g1 g2 g3 g4 st se with
 | none=>4
 | some t=>if 60000<t.length then 4 else 0
def ptxV (nm:List UInt8) (ge:Int) (g1 g2 g3 g4:Int) (st:List Stf) (se:List Sec):List UInt8:=if ptxE nm ge g1 g2 g3 g4 st se=0 then (patX nm g1 g2 g3 g4 st se).getD [] else []
section
variable {nm:List UInt8} {ge x g1 g2 g3 g4:Int} {st:List Stf} {se:List Sec} {T:List UInt8}
theorem zmL (h:patE nm ge st se=x) (h0:x≠0):ptxE nm ge g1 g2 g3 g4 st se=x∧ptxV nm ge g1 g2 g3 g4 st se=[]:=by
 have h1:ptxE nm ge g1 g2 g3 g4 st se=x:=by rw [ptxE,h,if_pos h0]
 exact ⟨h1,by rw [ptxV,h1,if_neg h0]⟩
theorem zk6 (h:patE nm ge st se=0) (hr:patX nm g1 g2 g3 g4 st se=none):ptxE nm ge g1 g2 g3 g4 st se=4∧ptxV nm ge g1 g2 g3 g4 st se=[]:=by
 have h1:ptxE nm ge g1 g2 g3 g4 st se=4:=by rw [ptxE,h,if_neg (by simp),hr]
 exact ⟨h1,by rw [ptxV,h1,if_neg (by decide)]⟩
theorem zk5 (h:patE nm ge st se=0) (hr:patX nm g1 g2 g3 g4 st se=some T) (hT:60000<T.length):ptxE nm ge g1 g2 g3 g4 st se=4∧ptxV nm ge g1 g2 g3 g4 st se=[]:=by
 have h1:ptxE nm ge g1 g2 g3 g4 st se=4:=by rw [ptxE,h,if_neg (by simp),hr];simp only;rw [if_pos hT]
 exact ⟨h1,by rw [ptxV,h1,if_neg (by decide)]⟩
theorem zcW (h:patE nm ge st se=0) (hr:patX nm g1 g2 g3 g4 st se=some T) (hT:¬60000<T.length):ptxE nm ge g1 g2 g3 g4 st se=0∧ptxV nm ge g1 g2 g3 g4 st se=T:=by
 have h1:ptxE nm ge g1 g2 g3 g4 st se=0:=by rw [ptxE,h,if_neg (by simp),hr];simp only;rw [if_neg hT]
 exact ⟨h1,by rw [ptxV,if_pos h1,hr];rfl⟩
theorem zeh (h:ptxE nm ge g1 g2 g3 g4 st se=0):patE nm ge st se=0∧patX nm g1 g2 g3 g4 st se=some (ptxV nm ge g1 g2 g3 g4 st se)∧(ptxV nm ge g1 g2 g3 g4 st se).length≤60000:=by
 have h0:=h
 unfold ptxE at h
 split at h
 ·rename_i h1;exact absurd h h1
 ·rename_i h1
  split at h
  ·cases h
  ·rename_i t ht
   split at h
   ·cases h
   ·have e:ptxV nm ge g1 g2 g3 g4 st se=t:=by rw [ptxV,if_pos h0,ht];rfl
    rw [e]
    exact ⟨Classical.not_not.1 h1,ht,by omega⟩
theorem znM (h:patE nm ge st se=0):ptxE nm ge g1 g2 g3 g4 st se=0∨ptxE nm ge g1 g2 g3 g4 st se=4:=by
 rw [ptxE,if_neg (fun h9=>h9 h)]
 split
 ·exact .inr rfl
 ·split
  ·exact .inr rfl
  ·exact .inl rfl
theorem zf2 {s:List UInt8}:(s.length≤60000∧patE nm ge st se=0∧patX nm g1 g2 g3 g4 st se=some s)↔(ptxE nm ge g1 g2 g3 g4 st se=0∧ptxV nm ge g1 g2 g3 g4 st se=s):=by
 constructor
 ·rintro ⟨h1,h2,h3⟩
  exact zcW h2 h3 (by omega)
 ·rintro ⟨h1,rfl⟩
  obtain ⟨h2,h3,h4⟩:=zeh h1
  exact ⟨h4,h2,h3⟩
end
theorem zjZ {g:Nat→List UInt8} {n i j:Nat} (h:twiceB g n=false) (hi:i<n) (hj:j<i):g i≠g j:=by
 unfold twiceB at h
 rw [List.any_eq_false] at h
 have h1:=h i (ZE.2 hi)
 intro e
 apply h1
 unfold amongB
 rw [List.any_eq_true]
 exact ⟨j,ZE.2 hj,by simp [e]⟩
theorem ziK {g:Nat→List UInt8} {N:Nat} (h:twiceB g N=false) {i:Nat} (hi:i<N):∀(n k:Nat),k≤i→i<k+n→idxN g (g i) n k=(i:Int):=by
 intro n
 induction n with
 | zero=>intro k h1 h2;omega
 | succ n ih =>
  intro k h1 h2
  rw [idxN]
  by_cases hk:k=i
  ·subst hk
   rw [if_pos rfl]
  ·rw [if_neg (fun e=>zjZ h hi (show k<i by omega) e.symm)]
   exact ih (k+1) (by omega) (by omega)
theorem zeX {se:List Sec}:∀(n k:Nat),firstE se n k=0→∀i,k≤i→i<k+n→chkC (se.getD i sec0).s (se.getD i sec0).rows=0:=by
 intro n
 induction n with
 | zero=>intro k _ i h1 h2;omega
 | succ n ih =>
  intro k h i h1 h2
  rw [firstE] at h
  split at h
  ·rename_i h3;exact absurd h h3
  ·rename_i h3
   by_cases hk:k=i
   ·subst hk;exact Classical.not_not.1 h3
   ·exact ih (k+1) h i (by omega) (by omega)
theorem ziW {nm:List UInt8} {ge:Int} {st:List Stf} {se:List Sec} {i:Nat} (h:patE nm ge st se=0) (hi:i<se.length):patE nm ge st [se.getD i sec0]=0∧twiceB (seN se) se.length=false∧chkC (se.getD i sec0).s (se.getD i sec0).rows=0:=by
 unfold patE at h
 split at h
 ·cases h
 ·rename_i h1
  split at h
  ·rename_i h2
   split at h
   ·cases h
   ·rename_i h3
    have hc:=zeX _ _ h i (Zu _) (by omega)
    have htw:twiceB (seN se) se.length=false:=by
     cases hq:twiceB (seN se) se.length with
     | false=>rfl
     | true=>exact absurd (.inr hq) h3
    have hts:twiceB (stN st) st.length=false:=by
     cases hq:twiceB (stN st) st.length with
     | false=>rfl
     | true=>exact absurd (.inl hq) h3
    refine ⟨?_,htw,hc⟩
    unfold fineP at h2
    simp only [Zs,Zx] at h2
    obtain ⟨⟨⟨⟨⟨a1,a2⟩,a3⟩,a4⟩,a5⟩,a6⟩:=h2
    have hw:wordS (se.getD i sec0).nm=true:=Zq.1 a3 i (ZE.2 hi)
    have hf:fineP nm ge st [se.getD i sec0]=true:=by
     unfold fineP
     have hb:wordsB (seN [se.getD i sec0]) [se.getD i sec0].length=true:=by
      show (wordS (se.getD i sec0).nm && true)=true
      rw [hw]
      rfl
     rw [a1,a2,a5,a6,hb]
     rfl
    rw [patE,if_neg (by simp;omega),if_pos hf,if_neg (by rw [hts];simp [twiceB,amongB]),ZC,firstE,if_neg (by simpa using hc)]
    rfl
  ·cases h
theorem zfh:∀ {a b:List Sec} {T:List UInt8},secsT (a++b)=some T→∃T1 T2,secsT a=some T1∧secsT b=some T2∧T=T1++T2:=by
 intro a
 induction a with
 | nil=>intro b T h;exact ⟨[],T,rfl,h,rfl⟩
 | cons x r ih =>
  intro b T h
  rw [ZU,secsT] at h
  split at h
  ·cases h
  ·rename_i h0
   obtain ⟨t,ht,rfl⟩:=ZF.1 h
   obtain ⟨T1,T2,h1,h2,rfl⟩:=ih ht
   refine ⟨line3 cw x.nm x.s++10::(rowsV x.s x.rows++T1),T2,?_,h2,by simp⟩
   rw [secsT,if_neg h0,h1]
   rfl
theorem zkU {nm:List UInt8} {g1 g2 g3 g4:Int} {st:List Stf} {se:List Sec} {T:List UInt8} {i:Nat} (h:patX nm g1 g2 g3 g4 st se=some T) (hi:i<se.length) :
  ∃T',patX nm g1 g2 g3 g4 st [se.getD i sec0]=some T'∧T'.length≤T.length∧(se.length≤1→T'=T):=by
 obtain ⟨t,ht,rfl⟩:=ZF.1 h
 have e:se=se.take i++([se.getD i sec0]++se.drop (i+1)):=by
  conv=>lhs;rw [←Z9 i se]
  congr 1
  rw [Z4 hi,Zc,Zg hi]
  rfl
 rw [e] at ht
 obtain ⟨T1,T2,h1,h2,rfl⟩:=zfh ht
 obtain ⟨T3,T4,h3,h4,rfl⟩:=zfh h2
 refine ⟨_,by rw [patX,h3];rfl,by simp;omega,fun h9=>?_⟩
 have hi0:i=0:=by omega
 subst hi0
 have e1:T1=[]:=by rw [List.take_zero] at h1;exact (ZV h1).symm
 have e4:T4=[]:=by rw [List.drop_eq_nil_of_le (by omega)] at h4;exact (ZV h4).symm
 subst e1
 subst e4
 simp
theorem zmx {nm:List UInt8} {ge g1 g2 g3 g4:Int} {st:List Stf} {se:List Sec} {i:Nat} (h:patE nm ge st se=0) (hi:i<se.length) (hg:ptxE nm ge g1 g2 g3 g4 st se=0) :
  ptxE nm ge g1 g2 g3 g4 st [se.getD i sec0]=0∧(ptxV nm ge g1 g2 g3 g4 st [se.getD i sec0]).length≤(ptxV nm ge g1 g2 g3 g4 st se).length∧(se.length≤1→ptxV nm ge g1 g2 g3 g4 st [se.getD i sec0]=ptxV nm ge g1 g2 g3 g4 st se):=by
 obtain ⟨h1,h2,h3⟩:=zeh hg
 obtain ⟨T',h4,h5,h6⟩:=zkU h2 hi
 obtain ⟨h7,h8⟩:=zcW (ge:=ge) (ziW h hi).1 h4 (by omega)
 exact ⟨h7,by rw [h8];exact h5,fun h9=>by rw [h8];exact h6 h9⟩
end Go.Proofs.YtkneghkbgingdaaGreatDoor
/- What gauge computes,in plain Lean. -/
namespace Go.Proofs.YtkneghkbgingdaaGreatDoor
set_option maxRecDepth 100000
def ginR (n lo hi:Int):Bool:=decide (lo≤n) && decide (n≤hi)
def gok (a b c d:Int):Bool:=ginR a 1 10000 && ginR b 1 10000 && ginR c 1 10000 && ginR d 1 10000
def gerr (a b c d:Int):Int:=if gok a b c d then 0 else 8
theorem zny {n lo hi:Int} (h:n<lo∨hi<n):ginR n lo hi=false:=by simp [ginR];omega
theorem zgM {n lo hi:Int} (h:ginR n lo hi=true):lo≤n∧n≤hi:=by simpa [ginR] using h
theorem zgN {n lo hi:Int} (h:ginR n lo hi=false):n<lo∨hi<n:=by simp [ginR] at h;omega
end Go.Proofs.YtkneghkbgingdaaGreatDoor
/- The chapter's examples,plain. -/
namespace Go.Proofs.YtkneghkbgingdaaGreatDoor
set_option maxRecDepth 100000
theorem zbe (a b c d:Int) (h:gerr a b c d=0):(0≤a∧a≤100000)∧(0≤b∧b≤100000)∧(0≤c∧c≤100000)∧(0≤d∧d≤100000):=by
 unfold gerr at h
 split at h
 ·rename_i hk
  simp only [gok,ginR,Zs,Zx] at hk
  omega
 ·omega
theorem zj3:∀k:Nat,k≤200→atoiO (decD k)=some (k:Int):=fun k hk=>zeM k (by omega)
def exK5:List St:=[⟨1,false,0,0⟩,⟨1,false,0,0⟩,⟨1,false,0,0⟩,⟨1,false,0,0⟩,⟨1,false,0,0⟩]
def exP5:List St:=[⟨1,true,0,0⟩,⟨1,true,0,0⟩,⟨1,true,0,0⟩,⟨1,true,0,0⟩,⟨1,true,0,0⟩]
def exF:List St:=[⟨1,false,0,0⟩,⟨2,false,0,0⟩,⟨1,false,0,0⟩,⟨1,false,0,0⟩,⟨1,true,0,0⟩]
def gvR:List Ro:=[⟨false,exF⟩,⟨true,exP5⟩,⟨false,exK5⟩,⟨true,exP5⟩,⟨false,exK5⟩,⟨true,exP5⟩]
def someB:List UInt8:=[102,114,111,110,116,32,107,32,121,111,32,107,42,50,32,112,10,98,97,99,107,32,112,42,53,10,102,114,111,110,116,32,107,42,53,10,97,103,97,105,110,32,50,32,49,10,98,97,99,107,32,112,42,53,10]
def scB:List UInt8:=[112,97,116,116,101,114,110,32,115,99,97,114,102,10,103,97,117,103,101,32,50,50,32,49,48,48,48,32,51,48,32,49,48,48,48,10,115,116,117,102,102,32,119,111,111,108,32,50,48,48,10,115,101,99,116,105,111,110,32,98,111,100,121,32,52,10,102,114,111,110,116,32,107,42,52,10,98,97,99,107,32,112,42,52,10,97,103,97,105,110,32,50,32,57,10]
def scR:List Ro:=(List.replicate 10 [(⟨false,[⟨1,false,0,0⟩,⟨1,false,0,0⟩,⟨1,false,0,0⟩,⟨1,false,0,0⟩]⟩:Ro),⟨true,[⟨1,true,0,0⟩,⟨1,true,0,0⟩,⟨1,true,0,0⟩,⟨1,true,0,0⟩]⟩]).flatten
def scSt:List Stf:=[⟨[119,111,111,108],200⟩]
def scSe:List Sec:=[⟨[98,111,100,121],4,scR⟩]
def scP:PSt:=⟨[115,99,97,114,102],22,1000,30,1000,scSt,scSe⟩
theorem zfO:rowsE 4 gvR=0∧rowsV 4 gvR=someB:=by decide +kernel
theorem zow:patE scP.nm (gerr 22 1000 30 1000) scP.st scP.se=0:=by decide +kernel
theorem zoH:patX scP.nm scP.g1 scP.g2 scP.g3 scP.g4 scP.st scP.se=some scB:=by decide +kernel
theorem zoF:patP atoiO gerr scB=some scP:=(zcT zeM zbe).2 ⟨by decide +kernel,zow,zoH⟩
theorem zm4:rdP atoiO 4 someB=some gvR:=(zei zj3).2 zfO
theorem zoa:parseL [107,32,121,111,32,107,50,32,112]=some exF:=by decide +kernel
theorem zmk:parseL [112,53]=some exP5:=by decide +kernel
theorem znt:parseL [107,53]=some exK5:=by decide +kernel
end Go.Proofs.YtkneghkbgingdaaGreatDoor
/- Rows of charts in memory. -/
namespace Go.Proofs.YtkneghkbgingdaaGreatDoor
set_option maxRecDepth 100000
open Go.RowKit Go.ChangeShapes Go.WideShapes Go.Joins
structure Raw where
 b:Bool
 A:Option Addr
 n:Nat
 c:Nat
def raw0:Raw:=⟨false,none,0,0⟩
def shRaw:Shp Raw where
 size:=2
 cells x:=[.bool x.b,.slice x.A x.n x.c]
 pos:=by omega
 len _:=rfl
 one x u h:=by
  simp at h
  rcases h with h | h <;> subst h <;> rfl
theorem zbO:(Tryz.prog.info? 75).map (fun i=>(i.zero,i.size,i.bytes))=some (some (.agg #[.bool false,.slice none 0 0]),2,32):=by kernel_rfl
def RoAt (w:World) (K:Nat→Prop) (x:Raw) (r:Ro):Prop :=
 x.b=r.back∧Vec shSt w x.A x.n r.cells∧x.n≤maxLen∧Bytes r.cells∧(0<x.n→∀b off,x.A=some ⟨b,off,none⟩→K b)
def RosAt (w:World) (K:Nat→Prop) (xs:List Raw) (l:List Ro):Prop:=xs.length=l.length∧∀k,k<l.length→RoAt w K (xs.getD k raw0) (l.getD k ro0)
def Rws (w:World) (K:Nat→Prop) (A:Option Addr) (n:Nat) (l:List Ro):Prop :=
 n≤maxLen∧∃xs:List Raw,Vec shRaw w A n xs∧(0<n→∀b off,A=some ⟨b,off,none⟩→K b)∧RosAt w K xs l
theorem Rws.len {w:World} {K:Nat→Prop} {A:Option Addr} {n:Nat} {l:List Ro} (h:Rws w K A n l):l.length=n:=by
 obtain ⟨_,xs,h1,_,h2⟩:=h
 rw [←h2.1]
 exact h1.1
theorem Vec.keepK {α:Type} {S:Shp α} {w w':World} {K:Nat→Prop} {A:Option Addr} {n:Nat} {l:List α} (h:Vec S w A n l) (hk:0<n→∀b off,A=some ⟨b,off,none⟩→K b) (hz:w.heap.size≤w'.heap.size)
  (hc:∀b,b<w.heap.size→K b→∀o,w'.cell? ⟨b,o,none⟩=w.cell? ⟨b,o,none⟩):Vec S w' A n l :=
 ⟨h.1,fun hn=>by
  obtain ⟨b,off,e,hlt,hx⟩:=h.2 hn
  exact ⟨b,off,e,Zt hlt hz,fun k x hxk i u hu=>(hc b hlt (hk hn b off e) _).trans (hx k x hxk i u hu)⟩⟩
theorem RoAt.keep {w w':World} {K K':Nat→Prop} {x:Raw} {r:Ro} (h:RoAt w K x r) (hz:w.heap.size≤w'.heap.size) (hc:∀b,b<w.heap.size→K b→K' b∧∀o,w'.cell? ⟨b,o,none⟩=w.cell? ⟨b,o,none⟩):RoAt w' K' x r:=by
 obtain ⟨h1,h2,h3,h4,h5⟩:=h
 refine ⟨h1,h2.keepK h5 hz (fun b hb hk=>(hc b hb hk).2),h3,h4,fun hn b off e=>?_⟩
 obtain ⟨b',off',e',hlt,_⟩:=h2.2 hn
 rw [e] at e'
 cases e'
 exact (hc b hlt (h5 hn b off e)).1
theorem RosAt.keep {w w':World} {K K':Nat→Prop} {xs:List Raw} {l:List Ro} (h:RosAt w K xs l) (hz:w.heap.size≤w'.heap.size) (hc:∀b,b<w.heap.size→K b→K' b∧∀o,w'.cell? ⟨b,o,none⟩=w.cell? ⟨b,o,none⟩):RosAt w' K' xs l :=
 ⟨h.1,fun k hk=>(h.2 k hk).keep hz hc⟩
theorem Rws.keep {w w':World} {K K':Nat→Prop} {A:Option Addr} {n:Nat} {l:List Ro} (h:Rws w K A n l) (hz:w.heap.size≤w'.heap.size) (hc:∀b,b<w.heap.size→K b→K' b∧∀o,w'.cell? ⟨b,o,none⟩=w.cell? ⟨b,o,none⟩):Rws w' K' A n l:=by
 obtain ⟨h0,xs,h1,h2,h3⟩:=h
 refine ⟨h0,xs,h1.keepK h2 hz (fun b hb hk=>(hc b hb hk).2),fun hn b off e=>?_,h3.keep hz hc⟩
 obtain ⟨b',off',e',hlt,_⟩:=h1.2 hn
 rw [e] at e'
 cases e'
 exact (hc b hlt (h2 hn b off e)).1
theorem Rws.ext {w w':World} {K:Nat→Prop} {A:Option Addr} {n:Nat} {l:List Ro} (h:Rws w K A n l) (hb:Ext w w'):Rws w' K A n l :=
 h.keep (Zr hb) fun b hlt hk=>⟨hk,fun o=>Zm (p:=⟨b,o,none⟩) hb hlt⟩
theorem Rws.mono {w:World} {K K':Nat→Prop} {A:Option Addr} {n:Nat} {l:List Ro} (h:Rws w K A n l) (hk:∀b,b<w.heap.size→K b→K' b):Rws w K' A n l :=
 h.keep (Zf _) fun b hlt hb=>⟨hk b hlt hb,fun _=>rfl⟩
theorem Rws.any {w:World} {K:Nat→Prop} {A:Option Addr} {n:Nat} {l:List Ro} (h:Rws w K A n l):Rws w (fun _=>True) A n l:=h.mono fun _ _ _=>trivial
theorem Rws.none_ (w:World) (K:Nat→Prop) (A:Option Addr):Rws w K A 0 []:=⟨by unfold maxLen;omega,[],Vec.none_ _ _ _,fun h=>absurd h (by omega),rfl,fun k hk=>by simp at hk⟩
theorem zgL {l:List Raw} {k:Nat} (h:k<l.length):l[k]?=some (l.getD k raw0):=by
 rw [Zc,Zg h];rfl
theorem Rws.at_ {w:World} {K:Nat→Prop} {A:Option Addr} {n:Nat} {l:List Ro} (h:Rws w K A n l) {k:Nat} (hk:k<n) :
  ∃(b off:Nat) (A':Option Addr) (n' c':Nat),A=some ⟨b,off,none⟩∧b<w.heap.size∧K b∧w.cell? ⟨b,off+k*2,none⟩=some (.bool (l.getD k ro0).back)∧w.cell? ⟨b,off+k*2+1,none⟩=some (.slice A' n' c') ∧
   Vec shSt w A' n' (l.getD k ro0).cells∧n'≤maxLen∧Bytes (l.getD k ro0).cells∧(0<n'→∀b off,A'=some ⟨b,off,none⟩→K b):=by
 have hl:=h.len
 obtain ⟨h0,xs,h1,h2,h3⟩:=h
 obtain ⟨b,off,e,hlt,hc⟩:=h1.2 (by omega)
 have hx:=zgL (l:=xs) (k:=k) (by rw [h1.1];exact hk)
 obtain ⟨g1,g2,g3,g4,g5⟩:=h3.2 k (by omega)
 refine ⟨b,off,(xs.getD k raw0).A,(xs.getD k raw0).n,(xs.getD k raw0).c,e,hlt,h2 (by omega) b off e,?_,?_,g2,g3,g4,g5⟩
 ·rw [←g1];exact hc k _ hx 0 _ rfl
 ·exact hc k _ hx 1 _ rfl
theorem Rws.part {w:World} {K:Nat→Prop} {A:Option Addr} {n:Nat} {l:List Ro} (h:Rws w K A n l) {i j:Nat} (hij:i≤j) (hj:j≤n):∀(A':Option Addr),(i<j→∃b off,A=some ⟨b,off,none⟩∧A'=some ⟨b,off+i*2,none⟩) →
  Rws w K A' (j-i) ((l.drop i).take (j-i)):=by
 intro A' hA
 have hl:=h.len
 obtain ⟨h0,xs,h1,h2,h3⟩:=h
 have hxl:=h1.1
 refine ⟨by unfold maxLen at *;omega,(xs.drop i).take (j-i),⟨by rw [Zy,ZD];omega,fun hn=>?_⟩,fun hn b off e=>?_,by rw [Zy,ZD,Zy,ZD];omega,fun k hk=>?_⟩
 ·obtain ⟨b,off,e1,e2⟩:=hA (by omega)
  obtain ⟨b',off',e3,hlt,hc⟩:=h1.2 (by omega)
  rw [e1] at e3
  cases e3
  refine ⟨b,off+i*2,e2,hlt,fun k x hx m u hu=>?_⟩
  have hk:k<j-i:=by
   have:=(ZO.1 hx).1
   rw [Zy] at this
   omega
  rw [List.getElem?_take,if_pos hk,Z6] at hx
  have:=hc (i+k) x hx m u hu
  have e4:off+i*2+(k*shRaw.size+m)=off+((i+k)*shRaw.size+m):=by
   show off+i*2+(k*2+m)=off+((i+k)*2+m)
   omega
  rw [e4]
  exact this
 ·obtain ⟨b',off',e1,e2⟩:=hA (by omega)
  rw [e] at e2
  cases e2
  exact h2 (by omega) b off' e1
 ·rw [Zy,ZD] at hk
  have g1:((xs.drop i).take (j-i)).getD k raw0=xs.getD (i+k) raw0:=by
   rw [Zc,List.getElem?_take,if_pos (by omega),Z6,←Zc]
  have g2:((l.drop i).take (j-i)).getD k ro0=l.getD (i+k) ro0:=by
   rw [Zc,List.getElem?_take,if_pos (by omega),Z6,←Zc]
  rw [g1,g2]
  exact h3.2 (i+k) (by omega)
theorem But.frozen {E:Option Nat} {w w':World} (h:But E w w') {p:Addr} (hp:p.block<w.heap.size) (hne:some p.block≠E):w'.frozen? p=w.frozen? p:=by
 exact World.frozen?_of_block (h.block p.block hp hne)
theorem Ext.frozenAt {w w':World} (h:Ext w w') (p:Addr) (hp:p.block<w.heap.size):w'.frozen? p=w.frozen? p :=
 But.frozen (But.of_ext h none) hp (by simp)
abbrev Kr (w:World) (B:Nat) (v:Value) (b:Nat):Prop:=B≤b∧some b≠v.ownBlock∧∀o,w.frozen? ⟨b,o,none⟩=false
def OwnR (w:World) (B:Nat) (e:TypeId) (v:Value) (k:Nat) (l:List Ro):Prop:=∃xs:List Raw,OwnV shRaw w B e v k xs∧RosAt w (Kr w B v) xs l
theorem OwnR.nil (w:World) (B:Nat) (e:TypeId):OwnR w B e (.slice none 0 0) 0 []:=⟨[],OwnV.nil _ _ _ _,rfl,fun k hk=>by simp at hk⟩
theorem OwnR.ext {w w':World} {B:Nat} {e:TypeId} {v:Value} {k:Nat} {l:List Ro} (h:OwnR w B e v k l) (hb:Ext w w'):OwnR w' B e v k l:=by
 obtain ⟨xs,h1,h2⟩:=h
 exact ⟨xs,h1.ext hb,h2.keep (Zr hb) fun b hlt hk=>⟨⟨hk.1,hk.2.1,fun o=>(Ext.frozenAt hb ⟨b,o,none⟩ hlt).trans (hk.2.2 o)⟩,fun o=>Zm (p:=⟨b,o,none⟩) hb hlt⟩⟩
theorem OwnR.len {w:World} {B:Nat} {e:TypeId} {v:Value} {k:Nat} {l:List Ro} (h:OwnR w B e v k l):l.length=k:=by
 obtain ⟨xs,h1,h2⟩:=h
 rw [←h2.1];exact h1.len
theorem OwnR.blk {w:World} {B:Nat} {e:TypeId} {v:Value} {k:Nat} {l:List Ro} (h:OwnR w B e v k l):∀b,v.ownBlock=some b→B≤b∧b<w.heap.size:=by
 obtain ⟨xs,h1,_⟩:=h
 exact h1.blk
theorem zoL {p:Prop} (h:p:=by
 obtain ⟨A,c,rfl,hv,hb⟩:=zac h1
 exact ⟨A,c,rfl,by unfold maxLen;omega,xs,hv,hb,h2.keep (Zf _) fun b _ hx=>⟨hx.1,fun _=>rfl⟩⟩):p:=h
theorem ziY {w:World} {B k:Nat} {e:TypeId} {v:Value} {l:List Ro} (h:OwnR w B e v k l) (hk:k≤1000000):∃A c,v = .slice A k c∧Rws w (fun b=>B≤b) A k l:=by
 obtain ⟨xs,h1,h2⟩:=h
 exact zoL
theorem RosAt.app {w:World} {K:Nat→Prop} {xs ys:List Raw} {l m:List Ro} (h:RosAt w K xs l) (hx:RosAt w K ys m):RosAt w K (xs++ys) (l++m):=by
 refine ⟨by simp [h.1,hx.1],fun k hk=>?_⟩
 rcases Z1 k l.length with h1 | h1
 ·have e1:(xs++ys).getD k raw0=xs.getD k raw0:=by
   rw [Zc,ZR (by rw [h.1];exact h1),←Zc]
  have e2:(l++m).getD k ro0=l.getD k ro0:=by
   rw [Zc,ZR h1,←Zc]
  rw [e1,e2]
  exact h.2 k h1
 ·rw [Zh] at hk
  have e1:(xs++ys).getD k raw0=ys.getD (k-l.length) raw0:=by
   rw [Zc,ZP (by rw [h.1];exact h1),h.1,←Zc]
  have e2:(l++m).getD k ro0=m.getD (k-l.length) ro0:=by
   rw [Zc,ZP h1,←Zc]
  rw [e1,e2]
  exact hx.2 _ (by omega)
section
variable {P:Program} {ops:Array Oper} {rest:List Oper} {o:Oper} {a:Act} {K:Act→World→Prop} {Q:Exit→Act→World→Prop} {E:Prop} {w wx:World}
end
section
variable {H:Type} {enc:TypeId×Value→H} {w:World} {base:Nat} {spare:Nat→Bool} {held:Bool}
theorem zbj {α:Type} {S:Shp α} {P:Program} {Q:α→Prop} {t e:TypeId} {v:Value} {fuel:Nat} {y:DataW H×List MemPlace} (ht:P.underlying t=some (.slice e)) (hC:P.cellsOf e=S.size)
  (hR:∀(fuel:Nat) (cs:List Value) (y:DataW H×List MemPlace),cs.length=S.size→DataW.trod enc P w base spare held fuel e cs=some y→∃x,cs=S.cells x∧Q x)
  (hf:DataW.trod enc P w base spare held fuel t [v]=some y):∃(A:Option Addr) (n c:Nat) (l:List α),v = .slice A n c∧Vec S w A n l∧n≤maxLen∧∀x∈l,Q x:=by
 rcases Go.Deep.open_slice ht hf with ⟨hcs,_⟩ | ⟨a,len,cap,m,n,D,Pl,hcs,_,hl,hm,hmm,_,hi⟩
 ·simp only [List.cons.injEq,and_true] at hcs
  subst hcs
  exact ⟨none,0,0,[],rfl,Vec.none_ _ _ _,by unfold maxLen;omega,fun x hx=>by cases hx⟩
 ·simp only [List.cons.injEq,and_true] at hcs
  subst hcs
  have hmn:len≤m:=by rw [hmm];split <;> omega
  have key:∀k,k≤m→∃l:List α,l.length=k∧(∀x∈l,Q x)∧∀i x,l[i]?=some x→∀j u,(S.cells x)[j]?=some u→w.cell? (a.add (i*S.size+j))=some u:=by
   intro k
   induction k with
   | zero=>intro _;exact ⟨[],rfl,fun x hx=>(by cases hx),fun i x hx=>by simp at hx⟩
   | succ k ih =>
    intro hk
    obtain ⟨l,hl1,hlq,hl2⟩:=ih (by omega)
    obtain ⟨cs',hc1,hc2⟩:=hi k (by omega)
    rw [hC] at hc1
    obtain ⟨_,hc3,hc4⟩:=World.cells?_some hc1
    obtain ⟨x,rfl,hqx⟩:=hR n cs' _ hc3 hc2
    refine ⟨l++[x],by simp [hl1],fun z hz=>(by
     rcases Zw.1 hz with h | h
     ·exact hlq z h
     ·simp at h;subst h;exact hqx),fun i y hy j u hu=>?_⟩
    rcases Z1 i k with hik | hik
    ·rw [ZR (by omega)] at hy
     exact hl2 i y hy j u hu
    ·rw [ZP (by omega),hl1] at hy
     obtain ⟨h0,h1⟩:=ZO.1 hy
     have hik:i=k:=by simp at h0;omega
     subst hik
     simp at h1
     subst h1
     have hj:j<S.size:=by rw [←S.len x];exact (ZO.1 hu).1
     rw [←Go.Deep.add_add,hc4 j hj]
     exact hu
  obtain ⟨l,hl1,hlq,hl2⟩:=key len hmn
  refine ⟨some a,len,cap,l,rfl,Vec.of_add hl1 fun hn=>⟨a,rfl,?_,hl2⟩,by omega,hlq⟩
  obtain ⟨x0,h0⟩:∃x,l[0]?=some x:=⟨l[0]'(by omega),Zg (by omega)⟩
  obtain ⟨u0,hu0⟩:∃u,(S.cells x0)[0]?=some u:=⟨(S.cells x0)[0]'(by rw [S.len];exact S.pos),Zg (by rw [S.len];exact S.pos)⟩
  have h1:=Zo w _ (hl2 0 x0 h0 0 u0 hu0)
  simpa [Addr.add] using h1
theorem zdi {fuel:Nat} {v:Value} {y:DataW H×List MemPlace} (h:DataW.trod enc Tryz.prog w base spare held fuel 73 [v]=some y) :
  ∃(A:Option Addr) (n c:Nat) (l:List St),v = .slice A n c∧Vec shSt w A n l∧n≤maxLen∧Bytes l:=by
 have hv:∃(A:Option Addr) (n c:Nat),v = .slice A n c:=by
  rcases DataW.trod_slice Tryz.underlying73 h with ⟨h0,_⟩ | ⟨a,len,cap',elems,rest,m,hfu,hcs,_⟩
  ·simp only [List.cons.injEq,and_true] at h0
   exact ⟨none,0,0,h0⟩
  ·simp only [List.cons.injEq,and_true] at hcs
   exact ⟨some a,len,cap',hcs⟩
 obtain ⟨A,n,c,rfl⟩:=hv
 suffices hs:∃(A':Option Addr) (n' c':Nat) (l:List St),Value.slice A n c = .slice A' n' c'∧Vec shSt w A' n' l∧n'≤maxLen∧∀s∈l,0≤s.k∧s.k≤255 by
  obtain ⟨A',n',c',l,h1,h2,h3,h4⟩:=hs
  exact ⟨A',n',c',l,h1,h2,h3,zgw h4⟩
 refine zbj Tryz.underlying73 (by kernel_rfl) (fun fuel cs y hl hy=>?_) h
 obtain ⟨xs,m,_,_,_,hxl,hel⟩:=DataW.trod_struct Tryz.underlying132 hy
 match cs,hl with
 | [c0,c1,c2,c3],_ =>
  match xs,hxl with
  | [y0,y1,y2,y3],_ =>
   have C0:Tryz.prog.cellsOf 5=1:=by kernel_rfl
   have C1:Tryz.prog.cellsOf 4=1:=by kernel_rfl
   have C2:Tryz.prog.cellsOf 3=1:=by kernel_rfl
   have h0:=hel 0 _ rfl
   have h1:=hel 1 _ rfl
   have h2:=hel 2 _ rfl
   have h3:=hel 3 _ rfl
   simp [C0,C1,C2] at h0 h1 h2 h3
   obtain ⟨n0,e0,_,wf0⟩:=DataW.trod_int Tryz.underlying5 h0
   have hwf:=bounds_u8 wf0
   obtain ⟨n1,e1,_⟩:=DataW.trod_bool Tryz.underlying4 h1
   obtain ⟨n2,e2,_⟩:=DataW.trod_int Tryz.underlying3 h2
   obtain ⟨n3,e3,_⟩:=DataW.trod_int Tryz.underlying3 h3
   simp at e0 e1 e2 e3
   subst e0
   subst e1
   subst e2
   subst e3
   exact ⟨⟨n0,n1,n2,n3⟩,rfl,hwf⟩
theorem zbE {fuel:Nat} {v:Value} {y:DataW H×List MemPlace} (h:DataW.trod enc Tryz.prog w base spare held fuel 22 [v]=some y) :
  ∃(A:Option Addr) (n c:Nat) (l:List Ro),v = .slice A n c∧Rws w (fun _=>True) A n l:=by
 obtain ⟨A,n,c,xs,e,hv,hm,hq⟩:=zbj (S:=shRaw) (Q:=fun x=>∃r,RoAt w (fun _=>True) x r) Tryz.underlying22 (by kernel_rfl) (fun fuel cs y hl hy=>by
  obtain ⟨xs,m,_,_,_,hxl,hel⟩:=DataW.trod_struct Tryz.underlying75 hy
  match cs,hl with
  | [c0,c1],_ =>
   match xs,hxl with
   | [y0,y1],_ =>
    have C1:Tryz.prog.cellsOf 4=1:=by kernel_rfl
    have C2:Tryz.prog.cellsOf 73=1:=by kernel_rfl
    have h0:=hel 0 _ rfl
    have h1:=hel 1 _ rfl
    simp [C1,C2] at h0 h1
    obtain ⟨b,e1,_⟩:=DataW.trod_bool Tryz.underlying4 h0
    obtain ⟨A',n',c',l,rfl,hv,hm,hb⟩:=zdi h1
    simp at e1
    subst e1
    exact ⟨⟨b,A',n',c'⟩,rfl,⟨b,l⟩,rfl,hv,hm,hb,fun _ _ _ _=>trivial⟩) h
 have key:∀xs:List Raw,(∀x∈xs,∃r,RoAt w (fun _=>True) x r)→∃l,RosAt w (fun _=>True) xs l:=by
  intro xs
  induction xs with
  | nil=>intro _;exact ⟨[],rfl,fun k hk=>by simp at hk⟩
  | cons x xs ih =>
   intro hx
   obtain ⟨r,hr⟩:=hx x (by simp)
   obtain ⟨l,hl⟩:=ih (fun z hz=>hx z (by simp [hz]))
   refine ⟨r::l,by simp [hl.1],fun k hk=>?_⟩
   cases k with
   | zero=>simpa using hr
   | succ k=>simpa using hl.2 k (by simpa using hk)
 obtain ⟨l,hl⟩:=key xs hq
 exact ⟨A,n,c,l,e,hm,xs,hv,fun _ _ _ _=>trivial,hl⟩
theorem zdv {r:Reach} {b0:Nat} {v:Value} {d:DataW H} {p:List MemPlace} (hv:Value.okWide Tryz.prog w r b0 24 v) (h:DataW.Trod enc Tryz.prog w base spare held 24 v d p) :
  ∃(s:Int) (A:Option Addr) (n c:Nat) (l:List Ro),v = .agg #[.int .i64 s,.slice A n c]∧Rws w (fun _=>True) A n l:=by
 obtain ⟨v0,v1,y0,y1,n,rfl, -, -,h0,h1⟩:=open_agg2 Tryz.underlying24 (by kernel_rfl) (by kernel_rfl) hv h
 obtain ⟨s,e0, -, -⟩:=DataW.trod_int Tryz.underlying3 h0
 obtain ⟨A,n,c,l,rfl,hl⟩:=zbE h1
 simp at e0
 subst e0
 exact ⟨s,A,n,c,l,rfl,hl⟩
end

end Go.Proofs.YtkneghkbgingdaaGreatDoor
