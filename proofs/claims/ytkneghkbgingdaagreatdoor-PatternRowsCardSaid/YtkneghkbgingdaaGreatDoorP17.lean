/- The reader of terms: its state; take and until. -/
import Derived.Test.YtkneghkbgingdaaGreatDoorP15
import Derived.Test.YtkneghkbgingdaaGreatDoorP16
import Derived.Test.YtkneghkbgingdaaGreatDoorP11
import Derived.Lib.AtoiAll
import Derived.Test.YtkneghkbgingdaaGreatDoorP02
import Derived.Test.YtkneghkbgingdaaGreatDoorP10
import Derived.Lib.AtoiTie
import Derived.Test.YtkneghkbgingdaaGreatDoorP08
import Derived.Test.YtkneghkbgingdaaGreatDoorP01
namespace Go.Proofs.YtkneghkbgingdaaGreatDoor
set_option maxRecDepth 100000
set_option maxRecDepth 100000
open Go.RowKit Go.ChangeShapes Go.WideShapes Go.Joins
def atoiO (l:List UInt8):Option Int:=match Lib.atoiAll l with
 | .ok v=>some v
 | _=>none
theorem zd4 {l:List UInt8} {v:Int} (h:atoiO l=some v) (hl:l.length≤1000000) (w:World) :
  Calls Tryz.prog 114 #[.string ⟨l.toArray⟩] w fun e w'=>e = .returned (.tuple #[.int .i64 v,.nilIface])∧Ext w w':=by
 have h1:Lib.atoiAll l = .ok v:=by
  unfold atoiO at h
  split at h
  ·rename_i v' h2
   cases h
   exact h2
  ·cases h
 refine (Tryz.strconv_Atoi_ok ⟨l.toArray⟩ (by rw [zaM];omega) v (by rw [zaX];exact h1) w).mono ?_
 rintro e w' ⟨rfl,h2⟩
 refine ⟨rfl,?_⟩
 rcases h2 with rfl | ⟨t,rfl⟩
 ·exact Ext.refl _
 ·exact Lib.bytesWorld_below _ _ _
theorem zfJ {l:List UInt8} (h:atoiO l=none) (hl:l.length≤1000000) (w:World) (hg:Glob w) :
  Calls Tryz.prog 114 #[.string ⟨l.toArray⟩] w fun e w'=>∃(v:Int) (te:TypeId) (p:Addr),e = .returned (.tuple #[.int .i64 v,.iface te (.pointer (some p))])∧Ext w w':=by
 cases h1:Lib.atoiAll l
 ·unfold atoiO at h
  rw [h1] at h
  cases h
 ·obtain ⟨tp,p,hv⟩:=hg.syn
  refine (Any.strconv_Atoi_syntax_var Tryz.laysC172 ⟨l.toArray⟩ (by rw [zaM];omega) (by rw [zaX];exact h1) tp p w hv).mono ?_
  rintro e w' ⟨N,rfl,_,_,hb⟩
  exact ⟨_,_,_,rfl,hb⟩
 ·obtain ⟨tp,p,hv⟩:=hg.rng
  refine (Tryz.strconv_Atoi_range_var ⟨l.toArray⟩ (by rw [zaM];omega) (by rw [zaX];exact h1) tp p w hv).mono ?_
  rintro e w' ⟨N,rfl,_,_,hb⟩
  exact ⟨_,_,_,rfl,hb⟩
def atOk (k:Nat):Bool:=decide (atoiO (decD k)=some (k:Int))
theorem zmQ:(List.range 201).all atOk=true:=by decide +kernel
theorem zgD:∀k:Nat,2≤k→k≤200→atoiO (decD k)=some (k:Int):=fun k _ h2=>by
 have h1:=List.all_eq_true.1 zmQ k (List.mem_range.2 (by omega))
 simpa [atOk] using h1
def Asc (_:List UInt8):Prop:=True
theorem Asc.suf {s r:List UInt8} (_:Asc s) (_:r <:+ s):Asc r:=trivial
theorem zmG (x:UInt8):([32,40,41,42]:List UInt8).contains x=isStop x:=by
 unfold isStop
 simp only [List.contains_cons,List.contains_nil,Bool.or_false,Bool.or_assoc]
theorem zbl:∀s:List UInt8,(untilS s).1++(untilS s).2=s:=by
 intro s
 induction s with
 | nil=>rfl
 | cons x l ih =>
  rw [untilS]
  split
  ·rfl
  ·simp [ih]
theorem zaL (s:List UInt8):(untilS s).2 <:+ s:=⟨(untilS s).1,zbl s⟩
theorem zkw (s:List UInt8):Lib.indexAny s [32,40,41,42]=if (untilS s).2=[] then -1 else ((untilS s).1.length:Int):=by
 induction s with
 | nil=>rfl
 | cons x l ih =>
  rw [Lib.indexAny,zmG,untilS]
  by_cases h:isStop x=true
  ·rw [if_pos h,if_pos h]
   simp
  ·rw [if_neg h,if_neg h,ih]
   by_cases h2:(untilS l).2=[]
   ·simp [h2]
   ·rw [if_neg h2]
    simp only [h2,if_false]
    have:¬(((untilS l).1.length:Int) == -1)=true:=by simp
    rw [if_neg this]
    simp
def RdAt (w:World) (g:Nat) (s:List UInt8) (d:Int):Prop:=w.heap[g]?=some (.cells #[.string ⟨s.toArray⟩,.int .i64 d] 206 (0,0))
theorem RdAt.ext {w w':World} {g:Nat} {s:List UInt8} {d:Int} (h:RdAt w g s d) (hb:Ext w w'):RdAt w' g s d:=by
 unfold RdAt
 rw [hb.block g (Array.getElem?_eq_some_iff.1 h).1]
 exact h
theorem RdAt.lt {w:World} {g:Nat} {s:List UInt8} {d:Int} (h:RdAt w g s d):g<w.heap.size:=(Array.getElem?_eq_some_iff.1 h).1
theorem RdAt.facts {w:World} {g:Nat} {s:List UInt8} {d:Int} (h:RdAt w g s d):w.cell? ⟨g,0,none⟩=some (.string ⟨s.toArray⟩)∧w.cell? ⟨g,1,none⟩=some (.int .i64 d)∧w.frozen? ⟨g,0,none⟩=false∧w.frozen? ⟨g,1,none⟩=false∧g<w.heap.size :=
 ⟨by rw [cell_of_row w g _ _ _ (0,0) h];rfl,by rw [cell_of_row w g _ _ _ (0,0) h];rfl,frozen_of_row w g _ _ _ h,frozen_of_row w g _ _ _ h,h.lt⟩
theorem RdAt.set0 {w:World} {g:Nat} {s:List UInt8} {d:Int} (h:RdAt w g s d) (r:List UInt8):RdAt (w.setCell ⟨g,0,none⟩ (.string ⟨r.toArray⟩)) g r d:=heap_setCell_same w g 0 _ _ _ h
theorem RdAt.set1 {w:World} {g:Nat} {s:List UInt8} {d:Int} (h:RdAt w g s d) (e:Int):RdAt (w.setCell ⟨g,1,none⟩ (.int .i64 e)) g s e:=heap_setCell_same w g 1 _ _ _ h
def hitB (x:UInt8):List UInt8→Bool
 | []=>false
 | y::_=>y==x
def hitR (x:UInt8):List UInt8→List UInt8
 | []=>[]
 | y::r=>if y==x then r else y::r
def TakeR (g:Nat) (x:UInt8) (s:List UInt8) (d:Int) (w:World) (e:Ending) (w':World):Prop:=e = .returned (.bool (hitB x s))∧RdAt w' g (hitR x s) d∧But (some g) w w'
theorem zdG (x:UInt8) (s:List UInt8):hitR x s <:+ s:=by
 cases s with
 | nil=>exact List.suffix_refl _
 | cons y r =>
  rw [hitR]
  split
  ·exact ⟨[y],rfl⟩
  ·exact List.suffix_refl _
set_option maxHeartbeats 2000000 in
theorem zcG (x:UInt8) (c:Int) (hc:(x.toNat:Int)=c) (g:Nat) (s:List UInt8) (d:Int) (w:World) (h:RdAt w g s d) (hl:s.length≤100000) :
  Calls Tryz.prog 175 #[.pointer (some ⟨g,0,none⟩),.int .u8 c] w (TakeR g x s d w):=by
 have HR:=Lib.hid h
 obtain ⟨c0,c1,f0,f1,hz⟩:=h.facts
 clear h
 cases s with
 | nil =>
  go_enter Tryz.func175,Tryz.ntmps175
  go_wp2_with fail
  go_ret
  exact ⟨rfl,HR.out.ext (by repeat (first|exact zr _|assumption|refine za ?_ _|refine zd ?_|refine zn ?_ _|refine zt ?_ (by assumption))),But.of_ext (by repeat (first|exact zr _|assumption|refine za ?_ _|refine zd ?_|refine zn ?_ _|refine zt ?_ (by assumption))) _⟩
 | cons y r =>
  have hn:((((y::r).length:Nat):Int)==0)=false:=by rw [beq_eq_false_iff_ne];simp;omega
  have hi:∀h:0<(y::r).length,(⟨(y::r).toArray⟩:ByteArray)[0]'(by rw [zaM];exact h)=y:=fun _=>rfl
  by_cases hx:y=x
  ·subst hx
   subst hc
   have HH:=Lib.hid (show hitB y (y::r)=true∧hitR y (y::r)=r by simp [hitB,hitR])
   have hex:(⟨(y::r).toArray⟩:ByteArray).extract 1 (r.length+1)=⟨r.toArray⟩:=zag (y::r) 1 (r.length+1) (by simp)
   go_enter Tryz.func175,Tryz.ntmps175
   go_wp2_with fail
   go_ret
   exact ⟨by rw [HH.out.1];rfl,by rw [HH.out.2];exact HR.out.set0 r,(But.refl _ _).own rfl _⟩
  ·have HH:=Lib.hid (show hitB x (y::r)=false∧hitR x (y::r)=y::r by simp [hitB,hitR,hx])
   have hne:(((y.toNat:Nat):Int) != c)=true:=by
    rw [←hc]
    simp
    intro e
    apply hx
    exact UInt8.toNat_inj.1 (by omega)
   go_enter Tryz.func175,Tryz.ntmps175
   go_wp2_with fail
   go_ret
   exact ⟨by rw [HH.out.1];rfl,by rw [HH.out.2];exact HR.out,But.refl _ _⟩
theorem zl0 (s:List UInt8) (_:Asc s) (hl:s.length≤100000) (w:World) :
  Calls Tryz.prog 195 #[.string ⟨s.toArray⟩,.string ⟨#[32,40,41,42]⟩] w fun e w'=>e = .returned (.int .i64 (if (untilS s).2=[] then -1 else ((untilS s).1.length:Int)))∧Ext w w':=by
 have h:=zk7 s (by omega) w
 rw [zkw] at h
 exact h
def UntilR (g:Nat) (s:List UInt8) (d:Int) (w:World) (e:Ending) (w':World):Prop:=e = .returned (.string ⟨(untilS s).1.toArray⟩)∧RdAt w' g (untilS s).2 d∧But (some g) w w'
set_option maxHeartbeats 2000000 in
theorem zaN (g:Nat) (s:List UInt8) (d:Int) (w:World) (h:RdAt w g s d) (ha:Asc s) (hl:s.length≤100000) :
  Calls Tryz.prog 189 #[.pointer (some ⟨g,0,none⟩),.string ⟨#[32,40,41,42]⟩] w (UntilR g s d w):=by
 have HR:=Lib.hid h
 obtain ⟨c0,c1,f0,f1,hz⟩:=h.facts
 have HI:=Lib.hid (fun (w':World)=>zl0 s ha hl w')
 clear h ha
 have happ:=zbl s
 obtain ⟨X,hX⟩:∃X,(untilS s).1=X:=⟨_,rfl⟩
 obtain ⟨Y,hY⟩:∃Y,(untilS s).2=Y:=⟨_,rfl⟩
 rw [hX,hY] at happ
 by_cases h0:Y=[]
 ·subst h0
  rw [List.append_nil] at happ
  subst happ
  have HXY:=Lib.hid (And.intro hX hY)
  have HI2:=Lib.hid (fun (w':World)=>(show Calls Tryz.prog 195 #[.string ⟨X.toArray⟩,.string ⟨#[32,40,41,42]⟩] w' fun e w''=>e = .returned (.int .i64 (-1))∧Ext w' w'' from by
   have h9:=HI.out w'
   rw [hY,if_pos rfl] at h9
   exact h9))
  have e0:(⟨X.toArray⟩:ByteArray).extract 0 X.length=⟨X.toArray⟩:=by rw [zaq,List.take_of_length_le (Nat.le_refl _)]
  have e1:(⟨X.toArray⟩:ByteArray).extract X.length X.length=⟨([]:List UInt8).toArray⟩:=by rw [zag X X.length X.length (Nat.le_refl _),List.drop_of_length_le (Nat.le_refl _)]
  clear hX hY HI
  go_enter Tryz.func189,Tryz.ntmps189
  go_wp2_with (first
   | (go_at_call 195;((with_reducible refine (HI2.out _).mono ?_);rintro e w1 ⟨rfl,hq1⟩;obtain ⟨x0,x1,x2,x3,x4⟩:=(HR.out.ext hq1).facts;have HQ:=Lib.hid hq1)))
  go_ret
  exact ⟨by rw [HXY.out.1];rfl,by rw [HXY.out.2];exact (HR.out.ext HQ.out).set0 [],(But.of_ext HQ.out _).own rfl _⟩
 ·have hlen:s.length=X.length+Y.length:=by rw [←happ,List.length_append]
  have HXY:=Lib.hid (And.intro hX hY)
  have HI2:=Lib.hid (fun (w':World)=>(show Calls Tryz.prog 195 #[.string ⟨s.toArray⟩,.string ⟨#[32,40,41,42]⟩] w' fun e w''=>e = .returned (.int .i64 (X.length:Int))∧Ext w' w'' from by
   have h9:=HI.out w'
   rw [hY,if_neg h0,hX] at h9
   exact h9))
  have e0:(⟨s.toArray⟩:ByteArray).extract 0 X.length=⟨X.toArray⟩:=by rw [zaq,←happ,List.take_left]
  have e1:(⟨s.toArray⟩:ByteArray).extract X.length (X.length+Y.length)=⟨Y.toArray⟩:=by rw [zag s X.length (X.length+Y.length) (by omega),←happ,List.drop_left]
  have b1:(X.length:Int)≤(s.length:Int):=by omega
  have b2:(0:Int)≤(X.length:Int):=by omega
  have b3:¬((X.length:Int)<0):=by omega
  clear hX hY HI happ h0
  go_enter Tryz.func189,Tryz.ntmps189
  go_wp2_with (first
   | (go_at_call 195;((with_reducible refine (HI2.out _).mono ?_);rintro e w1 ⟨rfl,hq1⟩;obtain ⟨x0,x1,x2,x3,x4⟩:=(HR.out.ext hq1).facts;have HQ:=Lib.hid hq1)))
  go_ret
  exact ⟨by rw [HXY.out.1];rfl,by rw [HXY.out.2];exact (HR.out.ext HQ.out).set0 Y,(But.of_ext HQ.out _).own rfl _⟩
end Go.Proofs.YtkneghkbgingdaaGreatDoor
/- The library's functions that the readers of patterns call;number. -/
namespace Go.Proofs.YtkneghkbgingdaaGreatDoor
set_option maxRecDepth 100000
set_option maxRecDepth 100000
open Go.RowKit
theorem zmV:∀k:Nat,k≤100000→atoiO (decD k)=some (k:Int):=by
 intro k h
 have h1:=zfh (n:=k) (by omega)
 have h2:(decD k).all isDg=true:=List.all_eq_true.2 (zgG k)
 have h3:decD k≠[]:=by
  intro e
  have h9:=zkJ (n:=k) (by omega)
  rw [e] at h9
  simp [num7] at h9
 unfold atoiO
 rw [Lib.atoiAll_short _ (by omega),zcQ h2 h3,zgt (by omega)]
 rfl
def cutB (c:UInt8):List UInt8→List UInt8×List UInt8×Bool
 | []=>([],[],false)
 | x::l=>if x=c then ([],l,true) else (x::(cutB c l).1,(cutB c l).2.1,(cutB c l).2.2)
theorem zlC (c:UInt8):∀l:List UInt8,(cutB c l).1=(cutA c l).1∧(cutB c l).2.1=(cutA c l).2:=by
 intro l
 induction l with
 | nil=>exact ⟨rfl,rfl⟩
 | cons x l ih =>
  rw [cutB,cutA]
  by_cases h:x=c
  ·rw [if_pos h,if_pos h]
   exact ⟨rfl,rfl⟩
  ·rw [if_neg h,if_neg h,ih.1,ih.2]
   exact ⟨rfl,rfl⟩
theorem zkD (c:UInt8):∀(l:List UInt8),Lib.cut l [c]=cutB c l:=by
 intro l
 rw [Lib.cut]
 induction l with
 | nil=>rfl
 | cons x l ih =>
  rw [zbx,cutB]
  by_cases hx:x=c
  ·subst hx
   simp
  ·have hcx:¬c=x:=fun e=>hx e.symm
   rw [if_neg hcx,if_neg hx]
   rw [←ih]
   rcases Lib.index_spec l [c] with ⟨hm,_⟩ | ⟨i,hm,_⟩
   ·rw [hm];rfl
   ·rw [hm]
    have h1:((i:Int) == -1)=false:=by rw [beq_eq_false_iff_ne];omega
    have h2:¬((i:Int)+1<0):=by omega
    simp [h1]
    omega
theorem zdP (c:UInt8):∀l:List UInt8,(cutA c l).1.length≤l.length∧(cutA c l).2.length≤l.length:=by
 intro l
 induction l with
 | nil=>exact ⟨Nat.le_refl _,Nat.le_refl _⟩
 | cons x l ih =>
  rw [cutA]
  split
  ·simp
  ·simp only [List.length_cons]
   omega
theorem zd2 (c:UInt8) (l:List UInt8) (hl:l.length≤1000000) (w:World) (hg:Glob w) :
  Calls Tryz.prog 45 #[.string ⟨l.toArray⟩,.string ⟨#[c]⟩] w fun e w'=>∃b,e = .returned (.tuple #[.string ⟨(cutA c l).1.toArray⟩,.string ⟨(cutA c l).2.toArray⟩,.bool b])∧Ext w w':=by
 obtain ⟨m,hm⟩:=hg.max
 refine (Tryz.strings_Cut ⟨l.toArray⟩ ⟨#[c]⟩ m w (by rw [zaM];omega) hm).mono ?_
 rintro e w' ⟨rfl,n,rfl⟩
 refine ⟨(cutB c l).2.2,?_,(Ext.refl _).drewN n⟩
 have h:=zkD c l
 rw [show (⟨l.toArray⟩:ByteArray).data.toList=l from zaX l,show (⟨#[c]⟩:ByteArray).data.toList=[c] from rfl,h,(zlC c l).1,(zlC c l).2]
theorem zdA (l:List UInt8) (w:World) :
  Calls Tryz.prog 78 #[.string ⟨l.toArray⟩,.string ⟨#[97,103,97,105,110,32]⟩] w fun e w'=>e = .returned (.tuple #[.string ⟨(if l.take 6=agnB then l.drop 6 else l).toArray⟩,.bool (decide (l.take 6=agnB))])∧w'=w:=by
 refine (Tryz.strings_CutPrefix ⟨l.toArray⟩ ⟨#[97,103,97,105,110,32]⟩ w).mono ?_
 rintro e w' ⟨rfl,rfl⟩
 refine ⟨?_,rfl⟩
 have e1:(⟨l.toArray⟩:ByteArray).data.toList=l:=zaX l
 have e2:(⟨#[97,103,97,105,110,32]⟩:ByteArray).data.toList=agnB:=rfl
 have e3:Lib.hasPrefix l agnB=decide (l.take 6=agnB):=by
  rw [Lib.hasPrefix,Bool.eq_iff_iff,List.isPrefixOf_iff_prefix,List.prefix_iff_eq_take,decide_eq_true_eq]
  exact eq_comm
 rw [e1,e2,Lib.trimPrefix,e3]
 by_cases h:l.take 6=agnB
 ·rw [decide_eq_true h,if_pos rfl,if_pos h]
  rfl
 ·rw [decide_eq_false h,if_neg (by decide),if_neg h]
set_option maxHeartbeats 1000000 in
theorem zc6 (l:List UInt8) (hl:l.length≤1000000) (w:World) (hg:Glob w) :
  Calls Tryz.prog 79 #[.string ⟨l.toArray⟩] w fun e w'=>e = .returned (.int .i64 (numP atoiO l))∧Ext w w':=by
 cases ha:atoiO l with
 | none =>
  have HN:=Lib.hid (show numP atoiO l = -1 by rw [numP,ha])
  have HAT:=Lib.hid (fun (w':World) (hg':Glob w')=>zfJ ha hl w' hg')
  have HG:=Lib.hid hg
  clear ha hg hl
  go_enter Tryz.func79,Tryz.ntmps79
  go_wp2_with (first
   | (go_at_call 114;(((with_reducible refine (HAT.out _ (HG.out.ext (by repeat (first|exact zr _|assumption|refine za ?_ _|refine zd ?_|refine zn ?_ _|refine zt ?_ (by assumption))))).mono ?_);rintro e w3 ⟨v,te,pe,rfl,hq3⟩))))
  go_ret
  exact ⟨by rw [HN.out];rfl,by repeat (first|exact zr _|assumption|refine za ?_ _|refine zd ?_|refine zn ?_ _|refine zt ?_ (by assumption))⟩
 | some v =>
  have HAT:=Lib.hid (fun (w':World)=>zd4 ha hl w')
  by_cases hv:v<0
  ·have HN:=Lib.hid (show numP atoiO l = -1 by rw [numP,ha];simp only;rw [if_pos hv])
   clear ha hg hl
   go_enter Tryz.func79,Tryz.ntmps79
   go_wp2_with (first
    | (go_at_call 114;(((with_reducible refine (HAT.out _).mono ?_);rintro e w3 ⟨rfl,hq3⟩))))
   go_ret
   exact ⟨by rw [HN.out];rfl,by repeat (first|exact zr _|assumption|refine za ?_ _|refine zd ?_|refine zn ?_ _|refine zt ?_ (by assumption))⟩
  ·have HN:=Lib.hid (show numP atoiO l=v by rw [numP,ha];simp only;rw [if_neg hv])
   clear ha hg hl
   go_enter Tryz.func79,Tryz.ntmps79
   go_wp2_with (first
    | (go_at_call 114;(((with_reducible refine (HAT.out _).mono ?_);rintro e w3 ⟨rfl,hq3⟩))))
   go_ret
   exact ⟨by rw [HN.out];rfl,by repeat (first|exact zr _|assumption|refine za ?_ _|refine zd ?_|refine zn ?_ _|refine zt ?_ (by assumption))⟩
end Go.Proofs.YtkneghkbgingdaaGreatDoor
/- Rows of charts in memory. -/
namespace Go.Proofs.YtkneghkbgingdaaGreatDoor
set_option maxRecDepth 100000
open Go.RowKit Go.ChangeShapes Go.WideShapes Go.Joins
structure Raw where
 b:Bool
 A:Option Addr
 n:Nat
 c:Nat
def raw0:Raw:=⟨false,none,0,0⟩
def shRaw:Shp Raw where
 size:=2
 cells x:=[.bool x.b,.slice x.A x.n x.c]
 pos:=by omega
 len _:=rfl
 one x u h:=by
  simp at h
  rcases h with h | h <;> subst h <;> rfl
theorem zbq:(Tryz.prog.info? 75).map (fun i=>(i.zero,i.size,i.bytes))=some (some (.agg #[.bool false,.slice none 0 0]),2,32):=by kernel_rfl
def RoAt (w:World) (K:Nat→Prop) (x:Raw) (r:Ro):Prop :=
 x.b=r.back∧Vec shSt w x.A x.n r.cells∧x.n≤maxLen∧Bytes r.cells∧(0<x.n→∀b off,x.A=some ⟨b,off,none⟩→K b)
def RosAt (w:World) (K:Nat→Prop) (xs:List Raw) (l:List Ro):Prop:=xs.length=l.length∧∀k,k<l.length→RoAt w K (xs.getD k raw0) (l.getD k ro0)
def Rws (w:World) (K:Nat→Prop) (A:Option Addr) (n:Nat) (l:List Ro):Prop :=
 n≤maxLen∧∃xs:List Raw,Vec shRaw w A n xs∧(0<n→∀b off,A=some ⟨b,off,none⟩→K b)∧RosAt w K xs l
theorem Rws.len {w:World} {K:Nat→Prop} {A:Option Addr} {n:Nat} {l:List Ro} (h:Rws w K A n l):l.length=n:=by
 obtain ⟨_,xs,h1,_,h2⟩:=h
 rw [←h2.1]
 exact h1.1
theorem Vec.keepK {α:Type} {S:Shp α} {w w':World} {K:Nat→Prop} {A:Option Addr} {n:Nat} {l:List α} (h:Vec S w A n l) (hk:0<n→∀b off,A=some ⟨b,off,none⟩→K b) (hz:w.heap.size≤w'.heap.size)
  (hc:∀b,b<w.heap.size→K b→∀o,w'.cell? ⟨b,o,none⟩=w.cell? ⟨b,o,none⟩):Vec S w' A n l :=
 ⟨h.1,fun hn=>by
  obtain ⟨b,off,e,hlt,hx⟩:=h.2 hn
  exact ⟨b,off,e,Nat.lt_of_lt_of_le hlt hz,fun k x hxk i u hu=>(hc b hlt (hk hn b off e) _).trans (hx k x hxk i u hu)⟩⟩
theorem RoAt.keep {w w':World} {K K':Nat→Prop} {x:Raw} {r:Ro} (h:RoAt w K x r) (hz:w.heap.size≤w'.heap.size) (hc:∀b,b<w.heap.size→K b→K' b∧∀o,w'.cell? ⟨b,o,none⟩=w.cell? ⟨b,o,none⟩):RoAt w' K' x r:=by
 obtain ⟨h1,h2,h3,h4,h5⟩:=h
 refine ⟨h1,h2.keepK h5 hz (fun b hb hk=>(hc b hb hk).2),h3,h4,fun hn b off e=>?_⟩
 obtain ⟨b',off',e',hlt,_⟩:=h2.2 hn
 rw [e] at e'
 cases e'
 exact (hc b hlt (h5 hn b off e)).1
theorem RosAt.keep {w w':World} {K K':Nat→Prop} {xs:List Raw} {l:List Ro} (h:RosAt w K xs l) (hz:w.heap.size≤w'.heap.size) (hc:∀b,b<w.heap.size→K b→K' b∧∀o,w'.cell? ⟨b,o,none⟩=w.cell? ⟨b,o,none⟩):RosAt w' K' xs l :=
 ⟨h.1,fun k hk=>(h.2 k hk).keep hz hc⟩
theorem Rws.keep {w w':World} {K K':Nat→Prop} {A:Option Addr} {n:Nat} {l:List Ro} (h:Rws w K A n l) (hz:w.heap.size≤w'.heap.size) (hc:∀b,b<w.heap.size→K b→K' b∧∀o,w'.cell? ⟨b,o,none⟩=w.cell? ⟨b,o,none⟩):Rws w' K' A n l:=by
 obtain ⟨h0,xs,h1,h2,h3⟩:=h
 refine ⟨h0,xs,h1.keepK h2 hz (fun b hb hk=>(hc b hb hk).2),fun hn b off e=>?_,h3.keep hz hc⟩
 obtain ⟨b',off',e',hlt,_⟩:=h1.2 hn
 rw [e] at e'
 cases e'
 exact (hc b hlt (h2 hn b off e)).1
theorem Rws.ext {w w':World} {K:Nat→Prop} {A:Option Addr} {n:Nat} {l:List Ro} (h:Rws w K A n l) (hb:Ext w w'):Rws w' K A n l :=
 h.keep (Below.size hb) fun b hlt hk=>⟨hk,fun o=>Below.cell (p:=⟨b,o,none⟩) hb hlt⟩
theorem Rws.mono {w:World} {K K':Nat→Prop} {A:Option Addr} {n:Nat} {l:List Ro} (h:Rws w K A n l) (hk:∀b,b<w.heap.size→K b→K' b):Rws w K' A n l :=
 h.keep (Nat.le_refl _) fun b hlt hb=>⟨hk b hlt hb,fun _=>rfl⟩
theorem Rws.any {w:World} {K:Nat→Prop} {A:Option Addr} {n:Nat} {l:List Ro} (h:Rws w K A n l):Rws w (fun _=>True) A n l:=h.mono fun _ _ _=>trivial
theorem Rws.none_ (w:World) (K:Nat→Prop) (A:Option Addr):Rws w K A 0 []:=⟨by unfold maxLen;omega,[],Vec.none_ _ _ _,fun h=>absurd h (by omega),rfl,fun k hk=>by simp at hk⟩
theorem zi6 {l:List Raw} {k:Nat} (h:k<l.length):l[k]?=some (l.getD k raw0):=by
 rw [List.getD_eq_getElem?_getD,List.getElem?_eq_getElem h];rfl
theorem Rws.at_ {w:World} {K:Nat→Prop} {A:Option Addr} {n:Nat} {l:List Ro} (h:Rws w K A n l) {k:Nat} (hk:k<n) :
  ∃(b off:Nat) (A':Option Addr) (n' c':Nat),A=some ⟨b,off,none⟩∧b<w.heap.size∧K b∧w.cell? ⟨b,off+k*2,none⟩=some (.bool (l.getD k ro0).back)∧w.cell? ⟨b,off+k*2+1,none⟩=some (.slice A' n' c') ∧
   Vec shSt w A' n' (l.getD k ro0).cells∧n'≤maxLen∧Bytes (l.getD k ro0).cells∧(0<n'→∀b off,A'=some ⟨b,off,none⟩→K b):=by
 have hl:=h.len
 obtain ⟨h0,xs,h1,h2,h3⟩:=h
 obtain ⟨b,off,e,hlt,hc⟩:=h1.2 (by omega)
 have hx:=zi6 (l:=xs) (k:=k) (by rw [h1.1];exact hk)
 obtain ⟨g1,g2,g3,g4,g5⟩:=h3.2 k (by omega)
 refine ⟨b,off,(xs.getD k raw0).A,(xs.getD k raw0).n,(xs.getD k raw0).c,e,hlt,h2 (by omega) b off e,?_,?_,g2,g3,g4,g5⟩
 ·rw [←g1];exact hc k _ hx 0 _ rfl
 ·exact hc k _ hx 1 _ rfl
theorem Rws.part {w:World} {K:Nat→Prop} {A:Option Addr} {n:Nat} {l:List Ro} (h:Rws w K A n l) {i j:Nat} (hij:i≤j) (hj:j≤n):∀(A':Option Addr),(i<j→∃b off,A=some ⟨b,off,none⟩∧A'=some ⟨b,off+i*2,none⟩) →
  Rws w K A' (j-i) ((l.drop i).take (j-i)):=by
 intro A' hA
 have hl:=h.len
 obtain ⟨h0,xs,h1,h2,h3⟩:=h
 have hxl:=h1.1
 refine ⟨by unfold maxLen at *;omega,(xs.drop i).take (j-i),⟨by rw [List.length_take,List.length_drop];omega,fun hn=>?_⟩,fun hn b off e=>?_,by rw [List.length_take,List.length_drop,List.length_take,List.length_drop];omega,fun k hk=>?_⟩
 ·obtain ⟨b,off,e1,e2⟩:=hA (by omega)
  obtain ⟨b',off',e3,hlt,hc⟩:=h1.2 (by omega)
  rw [e1] at e3
  cases e3
  refine ⟨b,off+i*2,e2,hlt,fun k x hx m u hu=>?_⟩
  have hk:k<j-i:=by
   have:=(List.getElem?_eq_some_iff.1 hx).1
   rw [List.length_take] at this
   omega
  rw [List.getElem?_take,if_pos hk,List.getElem?_drop] at hx
  have:=hc (i+k) x hx m u hu
  have e4:off+i*2+(k*shRaw.size+m)=off+((i+k)*shRaw.size+m):=by
   show off+i*2+(k*2+m)=off+((i+k)*2+m)
   omega
  rw [e4]
  exact this
 ·obtain ⟨b',off',e1,e2⟩:=hA (by omega)
  rw [e] at e2
  cases e2
  exact h2 (by omega) b off' e1
 ·rw [List.length_take,List.length_drop] at hk
  have g1:((xs.drop i).take (j-i)).getD k raw0=xs.getD (i+k) raw0:=by
   rw [List.getD_eq_getElem?_getD,List.getElem?_take,if_pos (by omega),List.getElem?_drop,←List.getD_eq_getElem?_getD]
  have g2:((l.drop i).take (j-i)).getD k ro0=l.getD (i+k) ro0:=by
   rw [List.getD_eq_getElem?_getD,List.getElem?_take,if_pos (by omega),List.getElem?_drop,←List.getD_eq_getElem?_getD]
  rw [g1,g2]
  exact h3.2 (i+k) (by omega)
theorem But.frozen {E:Option Nat} {w w':World} (h:But E w w') {p:Addr} (hp:p.block<w.heap.size) (hne:some p.block≠E):w'.frozen? p=w.frozen? p:=by
 exact World.frozen?_of_block (h.block p.block hp hne)
theorem Ext.frozenAt {w w':World} (h:Ext w w') (p:Addr) (hp:p.block<w.heap.size):w'.frozen? p=w.frozen? p :=
 But.frozen (But.of_ext h none) hp (by simp)
theorem RosAt.app {w:World} {K:Nat→Prop} {xs ys:List Raw} {l m:List Ro} (h:RosAt w K xs l) (hx:RosAt w K ys m):RosAt w K (xs++ys) (l++m):=by
 refine ⟨by simp [h.1,hx.1],fun k hk=>?_⟩
 rcases Nat.lt_or_ge k l.length with h1 | h1
 ·have e1:(xs++ys).getD k raw0=xs.getD k raw0:=by
   rw [List.getD_eq_getElem?_getD,List.getElem?_append_left (by rw [h.1];exact h1),←List.getD_eq_getElem?_getD]
  have e2:(l++m).getD k ro0=l.getD k ro0:=by
   rw [List.getD_eq_getElem?_getD,List.getElem?_append_left h1,←List.getD_eq_getElem?_getD]
  rw [e1,e2]
  exact h.2 k h1
 ·rw [List.length_append] at hk
  have e1:(xs++ys).getD k raw0=ys.getD (k-l.length) raw0:=by
   rw [List.getD_eq_getElem?_getD,List.getElem?_append_right (by rw [h.1];exact h1),h.1,←List.getD_eq_getElem?_getD]
  have e2:(l++m).getD k ro0=m.getD (k-l.length) ro0:=by
   rw [List.getD_eq_getElem?_getD,List.getElem?_append_right h1,←List.getD_eq_getElem?_getD]
  rw [e1,e2]
  exact hx.2 _ (by omega)
section
variable {P:Program} {ops:Array Oper} {rest:List Oper} {o:Oper} {a:Act} {K:Act→World→Prop} {Q:Exit→Act→World→Prop} {E:Prop} {w wx:World}
end
section
variable {H:Type} {enc:TypeId×Value→H} {w:World} {base:Nat} {spare:Nat→Bool} {held:Bool}
theorem zcT {α:Type} {S:Shp α} {P:Program} {Q:α→Prop} {t e:TypeId} {v:Value} {fuel:Nat} {y:DataW H×List MemPlace} (ht:P.underlying t=some (.slice e)) (hC:P.cellsOf e=S.size)
  (hR:∀(fuel:Nat) (cs:List Value) (y:DataW H×List MemPlace),cs.length=S.size→DataW.trod enc P w base spare held fuel e cs=some y→∃x,cs=S.cells x∧Q x)
  (hf:DataW.trod enc P w base spare held fuel t [v]=some y):∃(A:Option Addr) (n c:Nat) (l:List α),v = .slice A n c∧Vec S w A n l∧n≤maxLen∧∀x∈l,Q x:=by
 rcases Go.Deep.open_slice ht hf with ⟨hcs,_⟩ | ⟨a,len,cap,m,n,D,Pl,hcs,_,hl,hm,hmm,_,hi⟩
 ·simp only [List.cons.injEq,and_true] at hcs
  subst hcs
  exact ⟨none,0,0,[],rfl,Vec.none_ _ _ _,by unfold maxLen;omega,fun x hx=>by cases hx⟩
 ·simp only [List.cons.injEq,and_true] at hcs
  subst hcs
  have hmn:len≤m:=by rw [hmm];split <;> omega
  have key:∀k,k≤m→∃l:List α,l.length=k∧(∀x∈l,Q x)∧∀i x,l[i]?=some x→∀j u,(S.cells x)[j]?=some u→w.cell? (a.add (i*S.size+j))=some u:=by
   intro k
   induction k with
   | zero=>intro _;exact ⟨[],rfl,fun x hx=>(by cases hx),fun i x hx=>by simp at hx⟩
   | succ k ih =>
    intro hk
    obtain ⟨l,hl1,hlq,hl2⟩:=ih (by omega)
    obtain ⟨cs',hc1,hc2⟩:=hi k (by omega)
    rw [hC] at hc1
    obtain ⟨_,hc3,hc4⟩:=World.cells?_some hc1
    obtain ⟨x,rfl,hqx⟩:=hR n cs' _ hc3 hc2
    refine ⟨l++[x],by simp [hl1],fun z hz=>(by
     rcases List.mem_append.1 hz with h | h
     ·exact hlq z h
     ·simp at h;subst h;exact hqx),fun i y hy j u hu=>?_⟩
    rcases Nat.lt_or_ge i k with hik | hik
    ·rw [List.getElem?_append_left (by omega)] at hy
     exact hl2 i y hy j u hu
    ·rw [List.getElem?_append_right (by omega),hl1] at hy
     obtain ⟨h0,h1⟩:=List.getElem?_eq_some_iff.1 hy
     have hik:i=k:=by simp at h0;omega
     subst hik
     simp at h1
     subst h1
     have hj:j<S.size:=by rw [←S.len x];exact (List.getElem?_eq_some_iff.1 hu).1
     rw [←Go.Deep.add_add,hc4 j hj]
     exact hu
  obtain ⟨l,hl1,hlq,hl2⟩:=key len hmn
  refine ⟨some a,len,cap,l,rfl,Vec.of_add hl1 fun hn=>⟨a,rfl,?_,hl2⟩,by omega,hlq⟩
  obtain ⟨x0,h0⟩:∃x,l[0]?=some x:=⟨l[0]'(by omega),List.getElem?_eq_getElem (by omega)⟩
  obtain ⟨u0,hu0⟩:∃u,(S.cells x0)[0]?=some u:=⟨(S.cells x0)[0]'(by rw [S.len];exact S.pos),List.getElem?_eq_getElem (by rw [S.len];exact S.pos)⟩
  have h1:=World.block_lt_of_cell? w _ (hl2 0 x0 h0 0 u0 hu0)
  simpa [Addr.add] using h1
theorem zdf {fuel:Nat} {v:Value} {y:DataW H×List MemPlace} (h:DataW.trod enc Tryz.prog w base spare held fuel 73 [v]=some y) :
  ∃(A:Option Addr) (n c:Nat) (l:List St),v = .slice A n c∧Vec shSt w A n l∧n≤maxLen∧Bytes l:=by
 have hv:∃(A:Option Addr) (n c:Nat),v = .slice A n c:=by
  rcases DataW.trod_slice Tryz.underlying73 h with ⟨h0,_⟩ | ⟨a,len,cap',elems,rest,m,hfu,hcs,_⟩
  ·simp only [List.cons.injEq,and_true] at h0
   exact ⟨none,0,0,h0⟩
  ·simp only [List.cons.injEq,and_true] at hcs
   exact ⟨some a,len,cap',hcs⟩
 obtain ⟨A,n,c,rfl⟩:=hv
 suffices hs:∃(A':Option Addr) (n' c':Nat) (l:List St),Value.slice A n c = .slice A' n' c'∧Vec shSt w A' n' l∧n'≤maxLen∧∀s∈l,0≤s.k∧s.k≤255 by
  obtain ⟨A',n',c',l,h1,h2,h3,h4⟩:=hs
  exact ⟨A',n',c',l,h1,h2,h3,zgK h4⟩
 refine zcT Tryz.underlying73 (by kernel_rfl) (fun fuel cs y hl hy=>?_) h
 obtain ⟨xs,m,_,_,_,hxl,hel⟩:=DataW.trod_struct Tryz.underlying132 hy
 match cs,hl with
 | [c0,c1,c2,c3],_ =>
  match xs,hxl with
  | [y0,y1,y2,y3],_ =>
   have C0:Tryz.prog.cellsOf 5=1:=by kernel_rfl
   have C1:Tryz.prog.cellsOf 4=1:=by kernel_rfl
   have C2:Tryz.prog.cellsOf 3=1:=by kernel_rfl
   have h0:=hel 0 _ rfl
   have h1:=hel 1 _ rfl
   have h2:=hel 2 _ rfl
   have h3:=hel 3 _ rfl
   simp [C0,C1,C2] at h0 h1 h2 h3
   obtain ⟨n0,e0,_,wf0⟩:=DataW.trod_int Tryz.underlying5 h0
   have hwf:=bounds_u8 wf0
   obtain ⟨n1,e1,_⟩:=DataW.trod_bool Tryz.underlying4 h1
   obtain ⟨n2,e2,_⟩:=DataW.trod_int Tryz.underlying3 h2
   obtain ⟨n3,e3,_⟩:=DataW.trod_int Tryz.underlying3 h3
   simp at e0 e1 e2 e3
   subst e0
   subst e1
   subst e2
   subst e3
   exact ⟨⟨n0,n1,n2,n3⟩,rfl,hwf⟩
theorem zeV {fuel:Nat} {v:Value} {y:DataW H×List MemPlace} (h:DataW.trod enc Tryz.prog w base spare held fuel 22 [v]=some y) :
  ∃(A:Option Addr) (n c:Nat) (l:List Ro),v = .slice A n c∧Rws w (fun _=>True) A n l:=by
 obtain ⟨A,n,c,xs,e,hv,hm,hq⟩:=zcT (S:=shRaw) (Q:=fun x=>∃r,RoAt w (fun _=>True) x r) Tryz.underlying22 (by kernel_rfl) (fun fuel cs y hl hy=>by
  obtain ⟨xs,m,_,_,_,hxl,hel⟩:=DataW.trod_struct Tryz.underlying75 hy
  match cs,hl with
  | [c0,c1],_ =>
   match xs,hxl with
   | [y0,y1],_ =>
    have C1:Tryz.prog.cellsOf 4=1:=by kernel_rfl
    have C2:Tryz.prog.cellsOf 73=1:=by kernel_rfl
    have h0:=hel 0 _ rfl
    have h1:=hel 1 _ rfl
    simp [C1,C2] at h0 h1
    obtain ⟨b,e1,_⟩:=DataW.trod_bool Tryz.underlying4 h0
    obtain ⟨A',n',c',l,rfl,hv,hm,hb⟩:=zdf h1
    simp at e1
    subst e1
    exact ⟨⟨b,A',n',c'⟩,rfl,⟨b,l⟩,rfl,hv,hm,hb,fun _ _ _ _=>trivial⟩) h
 have key:∀xs:List Raw,(∀x∈xs,∃r,RoAt w (fun _=>True) x r)→∃l,RosAt w (fun _=>True) xs l:=by
  intro xs
  induction xs with
  | nil=>intro _;exact ⟨[],rfl,fun k hk=>by simp at hk⟩
  | cons x xs ih =>
   intro hx
   obtain ⟨r,hr⟩:=hx x (by simp)
   obtain ⟨l,hl⟩:=ih (fun z hz=>hx z (by simp [hz]))
   refine ⟨r::l,by simp [hl.1],fun k hk=>?_⟩
   cases k with
   | zero=>simpa using hr
   | succ k=>simpa using hl.2 k (by simpa using hk)
 obtain ⟨l,hl⟩:=key xs hq
 exact ⟨A,n,c,l,e,hm,xs,hv,fun _ _ _ _=>trivial,hl⟩
end
end Go.Proofs.YtkneghkbgingdaaGreatDoor
/- Rows that a call has put together;their cells lie in blocks of the call's own (nothing is said of who may write them). -/
namespace Go.Proofs.YtkneghkbgingdaaGreatDoor
set_option maxRecDepth 100000
open Go.RowKit Go.ChangeShapes Go.WideShapes Go.Joins
abbrev Kq (B:Nat) (v:Value) (b:Nat):Prop:=B≤b∧some b≠v.ownBlock
def OwnQ (w:World) (B:Nat) (e:TypeId) (v:Value) (k:Nat) (l:List Ro):Prop:=∃xs:List Raw,OwnV shRaw w B e v k xs∧RosAt w (Kq B v) xs l∧∀x∈xs,x.n≤x.c
theorem OwnQ.nil (w:World) (B:Nat) (e:TypeId):OwnQ w B e (.slice none 0 0) 0 []:=⟨[],OwnV.nil _ _ _ _,⟨rfl,fun k hk=>by simp at hk⟩,fun x hx=>by cases hx⟩
theorem OwnQ.ext {w w':World} {B:Nat} {e:TypeId} {v:Value} {k:Nat} {l:List Ro} (h:OwnQ w B e v k l) (hb:Ext w w'):OwnQ w' B e v k l:=by
 obtain ⟨xs,h1,h2,h3⟩:=h
 exact ⟨xs,h1.ext hb,h2.keep (Below.size hb) fun b hlt hk=>⟨hk,fun o=>Below.cell (p:=⟨b,o,none⟩) hb hlt⟩,h3⟩
theorem OwnQ.len {w:World} {B:Nat} {e:TypeId} {v:Value} {k:Nat} {l:List Ro} (h:OwnQ w B e v k l):l.length=k:=by
 obtain ⟨xs,h1,h2, -⟩:=h
 rw [←h2.1];exact h1.len
theorem OwnQ.blk {w:World} {B:Nat} {e:TypeId} {v:Value} {k:Nat} {l:List Ro} (h:OwnQ w B e v k l):∀b,v.ownBlock=some b→B≤b∧b<w.heap.size:=by
 obtain ⟨xs,h1,_⟩:=h
 exact h1.blk
theorem zbb {w:World} {B k:Nat} {e:TypeId} {v:Value} {l:List Ro} (h:OwnQ w B e v k l) (hk:k≤1000000):∃A c,v = .slice A k c∧Rws w (fun b=>B≤b) A k l:=by
 obtain ⟨xs,h1,h2, -⟩:=h
 obtain ⟨A,c,rfl,hv,hb⟩:=zaf h1
 exact ⟨A,c,rfl,by unfold maxLen;omega,xs,hv,hb,h2.keep (Nat.le_refl _) fun b _ hx=>⟨hx.1,fun _=>rfl⟩⟩
theorem OwnQ.row {w:World} {B k:Nat} {e:TypeId} {A:Option Addr} {c:Nat} {l:List Ro} (h:OwnQ w B e (.slice A k c) k l) {j:Nat} (hj:j<k) :
  ∃(b off:Nat) (x:Raw),A=some ⟨b,off,none⟩∧b<w.heap.size∧w.cell? ⟨b,off+j*2,none⟩=some (.bool x.b)∧w.cell? ⟨b,off+j*2+1,none⟩=some (.slice x.A x.n x.c)∧RoAt w (Kq B (.slice A k c)) x (l.getD j ro0)∧x.n≤x.c:=by
 have hl:=h.len
 obtain ⟨xs,h1,h2,h3⟩:=h
 obtain ⟨A',c',e1,hv, -⟩:=zaf h1
 cases e1
 obtain ⟨b,off,e2,hlt,hc⟩:=hv.2 (by omega)
 have hx:xs[j]?=some (xs.getD j raw0):=zi6 (by rw [h2.1];omega)
 exact ⟨b,off,xs.getD j raw0,e2,hlt,hc j _ hx 0 _ rfl,hc j _ hx 1 _ rfl,h2.2 j (by omega),h3 _ (List.mem_of_getElem? hx)⟩
theorem zbw {w:World} {K:Nat→Prop} {x:Raw} {r:Ro} (h:RoAt w K x r):RosAt w K [x] [r]:=⟨rfl,fun k hk=>by
 obtain rfl:k=0:=by simp at hk;omega
 exact h⟩
section
variable {P:Program} {ops:Array Oper} {rest:List Oper} {o:Oper} {a:Act} {K:Act→World→Prop} {Q:Exit→Act→World→Prop} {E:Prop} {w wx:World}
theorem zd6 (T e:TypeId) (z:Value) (bytes:Nat) {s x:Operand} {v:Value} {k m c:Nat} {A:Option Addr} {t r:List Ro} {ys:List Raw}
  (ho:o.op = .call { callee := .builtin .append,args:=#[s,x],argTypes:=#[T,T] })
  (ht:P.underlying T=some (.slice e)) (hinfo:(P.info? e).map (fun i=>(i.zero,i.size,i.bytes))=some (some z,shRaw.size,bytes)) (hzs:z.cells.size=2) (hby:bytes≤1000)
  (hs:a.eval s=v) (hx:a.eval x = .slice A m c) (hown:OwnQ wx w.heap.size e v k t) (hext:Ext w wx) (hv:Vec shRaw wx A m ys) (hr:RosAt wx (Kq w.heap.size v) ys r) (hcp:∀y∈ys,y.n≤y.c) (hk:k+m≤1000000)
  (h:∀v' w1,OwnQ w1 w.heap.size e v' (k+m) (t++r)→Hid (Ext w w1)→K (a.put o.dst v') w1):o.wp P a wx K Q:=by
 obtain ⟨xs,h1,h2,h5⟩:=hown
 refine zaO (news:=ys.flatMap shRaw.cells) T e z 2 bytes ho ht hinfo hzs (by omega) hby hs hx h1 hext (by rw [zbK,hv.1];rfl) (fun hm=>by
   obtain ⟨b,off,hA,_,_⟩:=hv.2 hm
   subst hA
   exact ⟨_,rfl,hv.cells_at⟩) (fun u hu=>by obtain ⟨y,_,hy⟩:=List.mem_flatMap.1 hu;exact shRaw.one y u hy) hk ?_
 intro v' w1 g1 g2 g3 g4
 have hb:∀b,b<wx.heap.size→Kq w.heap.size v b→Kq w.heap.size v' b∧∀o,w1.cell? ⟨b,o,none⟩=wx.cell? ⟨b,o,none⟩:=fun b hlt hb=>by
  refine ⟨⟨hb.1,?_⟩,fun o=>But.cell (p:=⟨b,o,none⟩) g3 hlt hb.2⟩
  rcases g4 with g4 | g4
  ·rw [g4];exact hb.2
  ·rw [g4];intro e;cases e;omega
 refine h v' w1 ⟨xs++ys,?_,(h2.keep (But.size g3) hb).app (hr.keep (But.size g3) hb),fun x hx=>(List.mem_append.1 hx).elim (h5 x) (hcp x)⟩ g2
 unfold OwnV
 rw [List.flatMap_append]
 exact g1
theorem zap (T e:TypeId) (z:Value) (bytes:Nat) {s x:Operand} {v:Value} {k m c:Nat} {A:Option Addr} {t r:List Ro} {ys:List Raw} (hgd:o.guard=none)
  (ho:o.op = .call { callee := .builtin .append,args:=#[s,x],argTypes:=#[T,T] })
  (ht:P.underlying T=some (.slice e)) (hinfo:(P.info? e).map (fun i=>(i.zero,i.size,i.bytes))=some (some z,shRaw.size,bytes)) (hzs:z.cells.size=2) (hby:bytes≤1000)
  (hs:a.eval s=v) (hx:a.eval x = .slice A m c) (hown:OwnQ wx w.heap.size e v k t) (hext:Ext w wx) (hv:Vec shRaw wx A m ys) (hr:RosAt wx (Kq w.heap.size v) ys r) (hcp:∀y∈ys,y.n≤y.c) (hk:k+m≤1000000)
  (h:∀v' w1,OwnQ w1 w.heap.size e v' (k+m) (t++r)→Hid (Ext w w1)→wpList P ops Q rest (a.put o.dst v') w1):wpList P ops Q (o::rest) a wx :=
 wpList_plain hgd fun _ hK=>zd6 T e z bytes ho ht hinfo hzs hby hs hx hown hext hv hr hcp hk fun v' w' h2 h3=>hK _ _ (h v' w' h2 h3)
end
end Go.Proofs.YtkneghkbgingdaaGreatDoor
/- Written instructions,plain: the rounds of Rows. -/
namespace Go.Proofs.YtkneghkbgingdaaGreatDoor
set_option maxRecDepth 100000
theorem zjJ {l:List Ro} {f i:Nat} (h:l.length≤i):rowsT l f i=some []:=by
 cases f with
 | zero=>rfl
 | succ f=>rw [rowsT,if_pos h]
theorem ziZ {l:List Ro} {f i k m:Nat} (hi:i<l.length) (ha:agnT l i=(k,m)) (hm:0<m):rowsT l (f+1) i=(rowsT l f (i+k*m)).map fun r=>agnB++decD k++32::decD m++10::r:=by
 rw [rowsT,if_neg (by omega),ha,if_pos hm]
theorem zdk {l:List Ro} {f i:Nat} (hi:i<l.length) (ha:(agnT l i).2=0):rowsT l (f+1) i=(lineT (l.getD i ro0)).bind fun s=>(rowsT l f (i+1)).map fun r=>s++10::r:=by
 rw [rowsT,if_neg (by omega),if_neg (by omega)]
def RowSt (l:List Ro) (i:Nat) (T:List UInt8):Prop:=∃f,l.length-i<f∧rowsT l (l.length+1) 0=(rowsT l f i).map (T ++ ·)
theorem RowSt.start (l:List Ro):RowSt l 0 []:=⟨l.length+1,by omega,by simp⟩
theorem RowSt.fin {l:List Ro} {i:Nat} {T:List UInt8} (h:RowSt l i T) (hi:l.length≤i):rowsT l (l.length+1) 0=some T:=by
 obtain ⟨f,h1,h2⟩:=h
 rw [h2,zjJ hi]
 simp
theorem RowSt.agn {l:List Ro} {i k m:Nat} {T:List UInt8} (h:RowSt l i T) (hi:i<l.length) (ha:agnT l i=(k,m)) (hm:0<m) (hk:1≤k):RowSt l (i+k*m) (T++(agnB++decD k++32::decD m++[10])):=by
 obtain ⟨f,h1,h2⟩:=h
 obtain ⟨f,rfl⟩:∃g,f=g+1:=⟨f-1,by omega⟩
 have hp:0<k*m:=Nat.mul_pos (by omega) hm
 refine ⟨f,by omega,?_⟩
 rw [h2,ziZ hi ha hm]
 cases rowsT l f (i+k*m) <;> simp
theorem RowSt.line {l:List Ro} {i:Nat} {T s:List UInt8} (h:RowSt l i T) (hi:i<l.length) (ha:(agnT l i).2=0) (hs:lineT (l.getD i ro0)=some s):RowSt l (i+1) (T++(s++[10])):=by
 obtain ⟨f,h1,h2⟩:=h
 obtain ⟨f,rfl⟩:∃g,f=g+1:=⟨f-1,by omega⟩
 refine ⟨f,by omega,?_⟩
 rw [h2,zdk hi ha,hs]
 cases rowsT l f (i+1) <;> simp
theorem RowSt.none {l:List Ro} {i:Nat} {T:List UInt8} (h:RowSt l i T) (hi:i<l.length) (ha:(agnT l i).2=0) (hs:lineT (l.getD i ro0)=none):rowsT l (l.length+1) 0=none:=by
 obtain ⟨f,h1,h2⟩:=h
 obtain ⟨f,rfl⟩:∃g,f=g+1:=⟨f-1,by omega⟩
 rw [h2,zdk hi ha,hs]
 rfl
theorem ziK {l:List Ro} {i:Nat} (h:repT l i 1<2*repT l i 2):agnT l i=(2,repT l i 2)∧0<repT l i 2:=⟨by rw [agnT,if_pos h],by omega⟩
theorem ziO {l:List Ro} {i:Nat} (h:¬repT l i 1<2*repT l i 2):agnT l i=(1,repT l i 1):=by rw [agnT,if_neg h]
theorem zeT {l:List Ro} {i k m:Nat} (hi:i≤l.length) (ha:agnT l i=(k,m)) (hm:0<m):i+k*m≤l.length∧1≤k∧k≤2∧m≤l.length:=by
 have hk:1≤(agnT l i).1∧(agnT l i).1≤2:=by unfold agnT;split <;> simp
 have hrp:(agnT l i).2=repT l i (agnT l i).1:=by unfold agnT;split <;> rfl
 rw [ha] at hk hrp
 simp only at hk hrp
 have hp:0<k*m:=Nat.mul_pos (by omega) hm
 have h1:=zjo (l:=l) (i:=i) (k:=k) (j:=k*m-1) hi (by rw [←hrp];omega)
 have h2:m≤k*m:=by
  calc m=1*m:=(Nat.one_mul m).symm
   _≤k*m:=Nat.mul_le_mul_right m hk.1
 exact ⟨by omega,hk.1,hk.2,by omega⟩
theorem zkF {r:Ro} {s:List UInt8} (h:lineT r=some s) (h1:tchkE (termsT r.cells)=0):s.length≤3006:=by
 unfold lineT at h
 split at h
 ·cases h
 ·rename_i h3
  cases h
  have hE:ttextE (termsT r.cells)=0:=Classical.not_not.1 h3
  have hlen:(wT (termsT r.cells)).length≤3000:=by
   rw [ttextE,if_neg (fun h9=>h9 h1)] at hE
   split at hE
   ·cases hE
   ·omega
  have hs:(sideB r.back).length≤5:=by cases r.back <;> decide
  rw [List.length_append]
  split
  ·simp;omega
  ·simp only [List.length_cons];omega
theorem zgM {s:Int} {l:List Ro} {x:Int} (h:chkC s l=x) (h0:x≠0):rowsE s l=x∧rowsV s l=[]:=by
 have h1:rowsE s l=x:=by rw [rowsE,h,if_pos h0]
 exact ⟨h1,by rw [rowsV,h1,if_neg h0]⟩
theorem ze2 {s:Int} {l:List Ro} (h:chkC s l=0) (hr:rowsT l (l.length+1) 0=none):rowsE s l=4∧rowsV s l=[]:=by
 have h1:rowsE s l=4:=by rw [rowsE,h,if_neg (by simp),hr]
 exact ⟨h1,by rw [rowsV,h1,if_neg (by decide)]⟩
theorem zeO {s:Int} {l:List Ro} {T:List UInt8} (h:chkC s l=0) (hr:rowsT l (l.length+1) 0=some T) (hT:60000<T.length):rowsE s l=4∧rowsV s l=[]:=by
 have h1:rowsE s l=4:=by rw [rowsE,h,if_neg (by simp),hr];simp only;rw [if_pos hT]
 exact ⟨h1,by rw [rowsV,h1,if_neg (by decide)]⟩
theorem ze6 {s:Int} {l:List Ro} {T:List UInt8} (h:chkC s l=0) (hr:rowsT l (l.length+1) 0=some T) (hT:¬60000<T.length):rowsE s l=0∧rowsV s l=T:=by
 have h1:rowsE s l=0:=by rw [rowsE,h,if_neg (by simp),hr];simp only;rw [if_neg hT]
 exact ⟨h1,by rw [rowsV,if_pos h1,hr];rfl⟩
end Go.Proofs.YtkneghkbgingdaaGreatDoor
/- Written instructions,plain: the rounds of the readers;what ReadRows returns. -/
namespace Go.Proofs.YtkneghkbgingdaaGreatDoor
set_option maxRecDepth 100000
section
variable {at_:List UInt8→Option Int} {acc l:List Ro} {s rest:List UInt8}
theorem zkg (h:addP at_ acc s=some l):l.length≤100:=by
 unfold addP at h
 split at h
 ·simp only at h
  split at h
  ·cases h
  ·rename_i h1
   split at h
   ·rename_i h2
    cases h
    rw [zhe]
    have h3:(0:Int)≤numP at_ (cutA 32 (List.drop 6 s)).fst*numP at_ (cutA 32 (List.drop 6 s)).snd:=Int.mul_nonneg (by omega) (by omega)
    omega
   ·cases h
 ·split at h
  ·cases h
  ·split at h
   ·cases h
   ·split at h
    ·cases h
     rw [List.length_append,List.length_singleton]
     omega
    ·cases h
def RdSt (at_:List UInt8→Option Int) (s:List UInt8) (acc:List Ro) (rest:List UInt8):Prop:=∃f,rest.length≤f∧readP at_ (s.length+100) [] s=readP at_ f acc rest
theorem RdSt.start (at_:List UInt8→Option Int) (s:List UInt8):RdSt at_ s [] s:=⟨_,by omega,rfl⟩
theorem RdSt.fin (h:RdSt at_ s acc []):readP at_ (s.length+100) [] s=some acc:=by
 obtain ⟨f,h1,h2⟩:=h
 rw [h2]
 cases f <;> rfl
theorem RdSt.none (h:RdSt at_ s acc rest) (h0:rest≠[]) (ha:addP at_ acc (cutA 10 rest).1=none):readP at_ (s.length+100) [] s=none:=by
 obtain ⟨f,h1,h2⟩:=h
 cases hq:rest with
 | nil=>exact absurd hq h0
 | cons x q =>
  rw [hq] at h1 ha h2
  obtain ⟨f,rfl⟩:∃g,f=g+1:=⟨f-1,by simp at h1;omega⟩
  rw [h2,readP,ha]
  rfl
theorem RdSt.next (h:RdSt at_ s acc rest) (h0:rest≠[]) (ha:addP at_ acc (cutA 10 rest).1=some l):RdSt at_ s l (cutA 10 rest).2:=by
 obtain ⟨f,h1,h2⟩:=h
 have hc:=zlp 10 rest h0
 cases hq:rest with
 | nil=>exact absurd hq h0
 | cons x q =>
  rw [hq] at h1 ha h2 hc
  obtain ⟨f,rfl⟩:∃g,f=g+1:=⟨f-1,by simp at h1;omega⟩
  refine ⟨f,by omega,?_⟩
  rw [h2,readP,ha]
  rfl
end
def rwS (at_:List UInt8→Option Int) (start:Int) (s:List UInt8):Int:=if (rdP at_ start s).isSome=true then start else 0
def rwL (at_:List UInt8→Option Int) (start:Int) (s:List UInt8):List Ro:=(rdP at_ start s).getD []
def rwE (at_:List UInt8→Option Int) (start:Int) (s:List UInt8):Int:=if (rdP at_ start s).isSome=true then 0 else 12
theorem znp {at_:List UInt8→Option Int} {start:Int} {s:List UInt8} (h:rdP at_ start s=none):rwS at_ start s=0∧rwL at_ start s=[]∧rwE at_ start s=12:=by
 unfold rwS rwL rwE
 rw [h]
 exact ⟨rfl,rfl,rfl⟩
theorem zmR {at_:List UInt8→Option Int} {start:Int} {s:List UInt8} {l:List Ro} (h:rdP at_ start s=some l):rwS at_ start s=start∧rwL at_ start s=l∧rwE at_ start s=0:=by
 unfold rwS rwL rwE
 rw [h]
 exact ⟨rfl,rfl,rfl⟩
theorem zll {at_:List UInt8→Option Int} {start:Int} {s:List UInt8} (h:60000<s.length):rdP at_ start s=none:=by rw [rdP,if_pos h]
theorem zmr {at_:List UInt8→Option Int} {start:Int} {s:List UInt8} (h:readP at_ (s.length+100) [] s=none):rdP at_ start s=none:=by
 unfold rdP
 rw [h]
 split <;> rfl
theorem zlU {at_:List UInt8→Option Int} {start:Int} {s:List UInt8} {l:List Ro} (h0:¬60000<s.length) (h:readP at_ (s.length+100) [] s=some l):rdP at_ start s=if rowsE start l=0∧rowsV start l=s then some l else none:=by
 rw [rdP,if_neg h0,h]
 rfl
end Go.Proofs.YtkneghkbgingdaaGreatDoor
