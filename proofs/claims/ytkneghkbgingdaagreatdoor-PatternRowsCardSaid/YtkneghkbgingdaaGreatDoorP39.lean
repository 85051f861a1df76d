/- The reference's Parse of terms: it returns what Parse returns. -/
import Derived.Test.YtkneghkbgingdaaGreatDoorP37
import Derived.Test.YtkneghkbgingdaaGreatDoorP38
import Derived.Test.YtkneghkbgingdaaGreatDoorP26
import Derived.Test.YtkneghkbgingdaaGreatDoorP02
import Derived.Test.YtkneghkbgingdaaGreatDoorP27
import Derived.Test.YtkneghkbgingdaaGreatDoorP17
namespace Go.Proofs.YtkneghkbgingdaaGreatDoor
set_option maxRecDepth 100000
set_option maxRecDepth 100000
open Go.RowKit Go.ChangeShapes Go.WideShapes Go.Joins
theorem zlY:∀f,(∀d k s t,rlL f d k s=some t→t.size≤s.length)∧(∀d s n c g,rlT f d s=some (n,c,g)→1+g.size≤s.length)∧(∀d m s n c g,rlB f d m s=some (n,c,g)→1+g.size≤s.length):=by
 intro f
 induction f with
 | zero =>
  refine ⟨fun d k s t h=>?_,fun d s n c g h=>?_,fun d m s n c g h=>?_⟩
  ·rw [rlL] at h;cases h
  ·rw [rlT] at h;cases h
  ·rw [rlB] at h;cases h
 | succ f ih =>
  obtain ⟨ihL,ihT,ihB⟩:=ih
  refine ⟨fun d k s t h=>?_,fun d s n c g h=>?_,fun d m s n c g h=>?_⟩
  ·rw [rlL] at h
   have hap:=congrArg List.length (zg9 s 0)
   rw [List.length_append] at hap
   split at h
   ·cases h
   ·rename_i n c g hT
    have h1:=ihT _ _ _ _ _ hT
    split at h
    ·cases h
    ·split at h
     ·cases h
      simp only [Tms.size]
      omega
     ·rename_i x s2 hy
      rw [hy,List.length_cons] at hap
      split at h
      ·obtain ⟨r,h9,rfl⟩:=Option.map_eq_some_iff.1 h
       have h2:=ihL _ _ _ _ h9
       simp only [Tms.size]
       omega
      ·cases h
  ·rw [rlT] at h
   split at h
   ·split at h
    ·cases h
    ·split at h
     ·cases h
     ·have h1:=ihB _ _ _ _ _ _ h
      have h2:=congrArg List.length (zgu s)
      rw [List.length_append] at h2
      rw [List.length_dropLast] at h1
      omega
   ·exact ihB _ _ _ _ _ _ h
  ·rw [rlB] at h
   split at h
   ·rename_i h0
    split at h
    ·cases h
    ·obtain ⟨r,h9,e⟩:=Option.map_eq_some_iff.1 h
     cases e
     have h1:=ihL _ _ _ _ h9
     rw [List.length_dropLast,List.length_drop] at h1
     have:=h0.1
     omega
   ·split at h
    ·rename_i c' hp
     cases h
     have h1:=zgX hp
     have h2:=List.length_pos_iff.2 h1
     simp only [Tms.size]
     omega
    ·cases h
theorem zhg {f d:Nat} {s:List UInt8} {t:Tms} (h:listP f d s=some t):t.size≤s.length:=by
 unfold listP at h
 split at h
 ·cases h
  simp [Tms.size]
 ·exact (zlY f).1 _ _ _ _ h
set_option maxHeartbeats 4000000 in
theorem zbO (s:List UInt8) (hl0:s.length≤10000) (w:World):Calls Tryz.prog 117 #[.string ⟨s.toArray⟩] w (PTR s w):=by
 have hpe:=(zhY zgD s).symm
 by_cases h3:3000<s.length
 ·have hN:=Lib.hid (show parseT atoiO s=none by rw [hpe,rparseT,if_pos h3])
  have q1:(3000:Int)<(s.length:Int):=by omega
  clear hpe
  go_enter Tryz.func117,Tryz.ntmps117
  go_wp2_with fail
  go_ret2
  exact PTR.no hN.out (by repeat (first|exact zr _|assumption|refine za ?_ _|refine zd ?_|refine zn ?_ _|refine zt ?_ (by assumption)))
 have q1:¬((3000:Int)<(s.length:Int)):=by omega
 have hpe2:parseT atoiO s=(listP (3*s.length+3) 8 s).bind fun t=>if tchkE t=0∧wT t=s then some t else none:=by rw [hpe,rparseT,if_neg h3];rfl
 have HLI:=Lib.hid (fun (w':World)=>ziJ (3*s.length+3) 8 s w' 8 rfl (by omega) hl0 (Nat.le_refl _))
 clear hpe
 cases hq:listP (3*s.length+3) 8 s with
 | none =>
  have hN:=Lib.hid (show parseT atoiO s=none by rw [hpe2,hq];rfl)
  have HQ:=Lib.hid hq
  clear hpe2 hq
  go_enter Tryz.func117,Tryz.ntmps117
  go_wp2_with (first
   | (go_at_call 150;((with_reducible refine (HLI.out _).mono ?_);rintro e w1 ⟨hb,hn, -⟩;have h9:=hn HQ.out;subst h9;have HB:=Lib.hid hb;clear hb hn)))
  go_ret2
  exact PTR.no hN.out HB.out
 | some t =>
  have hts:=zhg hq
  have htc:=zeI hq
  have HQ:=Lib.hid hq
  rw [hq,Option.bind_some] at hpe2
  have HCK:=Lib.hid (fun (A:Option Addr) (n cap:Nat) (w':World) (hv:Tv w' A n t)=>zbu t (by omega) A n cap w' hv)
  have HLI2:=Lib.hid (fun (w':World)=>(show Calls Tryz.prog 150 #[.string ⟨s.toArray⟩,.int .i64 8] w' (fun e w''=>∃A c,e = .returned (.tuple #[.slice A t.cnt c,.bool true])∧Ext w' w''∧OwnT w'' w'.heap.size 134 (.slice A t.cnt c) t.cnt t) from by
   refine (HLI.out w').mono ?_
   rintro e w1 ⟨hb, -,hy⟩
   obtain ⟨v,rfl,ho⟩:=hy t HQ.out
   obtain ⟨A,c,rfl, -⟩:=zaD ho (by omega)
   exact ⟨A,c,rfl,hb,ho⟩))
  clear hq HLI
  obtain ⟨X,hX⟩:∃X,tchkE t=X:=⟨_,rfl⟩
  have HX:=Lib.hid hX
  by_cases h0:X=0
  ·have hft:=(zaG (hX.trans h0)).2.2
   have HWR:=Lib.hid (fun (A:Option Addr) (n cap:Nat) (w':World) (hv:Tv w' A n t)=>zcs 5000 (Nat.le_refl _) t (by omega) hft A n cap w' hv)
   obtain ⟨T,hT⟩:∃T,wT t=T:=⟨_,rfl⟩
   rw [hX,hT] at hpe2
   have HTT:=Lib.hid hT
   clear hX hT hft
   subst h0
   by_cases h1:T=s
   ·subst h1
    have hN:=Lib.hid (show parseT atoiO T=some t by rw [hpe2];simp)
    clear hpe2
    go_enter Tryz.func117,Tryz.ntmps117
    go_wp2_with (first
     | (go_at_call 150;((with_reducible refine (HLI2.out _).mono ?_);rintro e w1 ⟨A,c,rfl,hq1,ho⟩;have HO:=Lib.hid ho;have HV:=Lib.hid ((zdm ho (by omega)));clear ho))
     | (go_at_call 74;((with_reducible refine (HCK.out _ _ _ _ (HV.out.ext (by repeat (first|exact zr _|assumption|refine za ?_ _|refine zd ?_|refine zn ?_ _|refine zt ?_ (by assumption))))).mono ?_);rintro e w2 ⟨rfl,hq2⟩;rw [HX.out]))
     | (go_at_call 75;((with_reducible refine (HWR.out _ _ _ _ (HV.out.ext (by repeat (first|exact zr _|assumption|refine za ?_ _|refine zd ?_|refine zn ?_ _|refine zt ?_ (by assumption))))).mono ?_);rintro e w3 ⟨rfl,hq3⟩;rw [HTT.out])))
    go_ret2
    exact PTR.yes hN.out (by repeat (first|exact zr _|assumption|refine za ?_ _|refine zd ?_|refine zn ?_ _|refine zt ?_ (by assumption))) (HO.out.ext (by repeat (first|exact zr _|assumption|refine za ?_ _|refine zd ?_|refine zn ?_ _|refine zt ?_ (by assumption))))
   ·have hN:=Lib.hid (show parseT atoiO s=none by rw [hpe2];simp [h1])
    have hne:(T==s)=false:=by simpa using h1
    have hne2:(T != s)=true:=by simpa using h1
    clear hpe2 h1
    go_enter Tryz.func117,Tryz.ntmps117
    go_wp2_with (first
     | (go_at_call 150;((with_reducible refine (HLI2.out _).mono ?_);rintro e w1 ⟨A,c,rfl,hq1,ho⟩;have HO:=Lib.hid ho;have HV:=Lib.hid ((zdm ho (by omega)));clear ho))
     | (go_at_call 74;((with_reducible refine (HCK.out _ _ _ _ (HV.out.ext (by repeat (first|exact zr _|assumption|refine za ?_ _|refine zd ?_|refine zn ?_ _|refine zt ?_ (by assumption))))).mono ?_);rintro e w2 ⟨rfl,hq2⟩;rw [HX.out]))
     | (go_at_call 75;((with_reducible refine (HWR.out _ _ _ _ (HV.out.ext (by repeat (first|exact zr _|assumption|refine za ?_ _|refine zd ?_|refine zn ?_ _|refine zt ?_ (by assumption))))).mono ?_);rintro e w3 ⟨rfl,hq3⟩;rw [HTT.out])))
    go_ret2
    exact PTR.no hN.out (by repeat (first|exact zr _|assumption|refine za ?_ _|refine zd ?_|refine zn ?_ _|refine zt ?_ (by assumption)))
  ·rw [hX] at hpe2
   have hN:=Lib.hid (show parseT atoiO s=none by rw [hpe2];simp [h0])
   have hne:(X != 0)=true:=by simpa using h0
   clear hpe2 h0 hX
   go_enter Tryz.func117,Tryz.ntmps117
   go_wp2_with (first
    | (go_at_call 150;((with_reducible refine (HLI2.out _).mono ?_);rintro e w1 ⟨A,c,rfl,hq1,ho⟩;have HO:=Lib.hid ho;have HV:=Lib.hid ((zdm ho (by omega)));clear ho))
    | (go_at_call 74;((with_reducible refine (HCK.out _ _ _ _ (HV.out.ext (by repeat (first|exact zr _|assumption|refine za ?_ _|refine zd ?_|refine zn ?_ _|refine zt ?_ (by assumption))))).mono ?_);rintro e w2 ⟨rfl,hq2⟩;rw [HX.out])))
   go_ret2
   exact PTR.no hN.out (by repeat (first|exact zr _|assumption|refine za ?_ _|refine zd ?_|refine zn ?_ _|refine zt ?_ (by assumption)))
end Go.Proofs.YtkneghkbgingdaaGreatDoor
/- The reference's row of a line. -/
namespace Go.Proofs.YtkneghkbgingdaaGreatDoor
set_option maxRecDepth 100000
set_option maxRecDepth 100000
open Go.RowKit Go.ChangeShapes Go.WideShapes Go.Joins
theorem zdt (s h:List UInt8) (hh:h.length≤1000) (w:World) :
  Calls Tryz.prog 54 #[.string ⟨s.toArray⟩,.string ⟨h.toArray⟩] w fun e w'=>e = .returned (.bool (decide (s.take h.length=h)))∧Ext w w':=by
 by_cases hl:h.length≤s.length
 ·have q1:(h.length:Int)≤(s.length:Int):=by omega
  have q2:(0:Int)≤(h.length:Int):=by omega
  have hx:=zaq s h.length
  obtain ⟨b,hb⟩:∃b,(s.take h.length==h)=b:=⟨_,rfl⟩
  have HB:=Lib.hid (show decide (s.take h.length=h)=b by rw [←hb];by_cases h9:s.take h.length=h <;> simp [h9])
  go_enter Tryz.func54,Tryz.ntmps54
  go_wp2_with fail
  all_goals
   go_ret
   exact ⟨by rw [HB.out];rfl,by repeat (first|exact zr _|assumption|refine za ?_ _|refine zd ?_|refine zn ?_ _|refine zt ?_ (by assumption))⟩
 ·have q1:¬((h.length:Int)≤(s.length:Int)):=by omega
  have HB:=Lib.hid (show decide (s.take h.length=h)=false from decide_eq_false fun e=>by
   have h9:=congrArg List.length e
   rw [List.length_take] at h9
   omega)
  go_enter Tryz.func54,Tryz.ntmps54
  go_wp2_with fail
  all_goals
   go_ret
   exact ⟨by rw [HB.out];rfl,by repeat (first|exact zr _|assumption|refine za ?_ _|refine zd ?_|refine zn ?_ _|refine zt ?_ (by assumption))⟩
def RowR (s:List UInt8) (w:World) (e:Ending) (w':World):Prop:=∃(b:Bool) (A:Option Addr) (n c:Nat) (ok:Bool),e = .returned (.tuple #[.agg #[.bool b,.slice A n c],.bool ok])∧Ext w w' ∧
 ((rowR atoiO s=none∧ok=false)∨∃cs,rowR atoiO s=some ⟨b,cs⟩∧ok=true∧Vec shSt w' A n cs∧Bytes cs∧n≤maxLen∧(0<n→∀b off,A=some ⟨b,off,none⟩→w.heap.size≤b)∧n≤c)
theorem RowR.no {s:List UInt8} {b:Bool} {A:Option Addr} {n c:Nat} {w w':World} (h:rowR atoiO s=none) (hb:Ext w w'):RowR s w (.returned (.tuple #[.agg #[.bool b,.slice A n c],.bool false])) w':=⟨_,_,_,_,_,rfl,hb,.inl ⟨h,rfl⟩⟩
theorem RowR.yes {s:List UInt8} {b:Bool} {A:Option Addr} {n c:Nat} {cs:List St} {w w':World} (h:rowR atoiO s=some ⟨b,cs⟩) (hb:Ext w w') (h1:Vec shSt w' A n cs) (h2:Bytes cs) (h3:n≤maxLen) (h4:0<n→∀b off,A=some ⟨b,off,none⟩→w.heap.size≤b) (h5:n≤c) :
  RowR s w (.returned (.tuple #[.agg #[.bool b,.slice A n c],.bool true])) w':=⟨_,_,_,_,_,rfl,hb,.inr ⟨cs,h,rfl,h1,h2,h3,h4,h5⟩⟩
structure RB (w wx:World) (B:Bool) (V:Value):Prop where
 ex:Ext w wx
 r0:wx.cell? ⟨w.heap.size,0,none⟩=some (.bool false)
 r1:wx.cell? ⟨w.heap.size,1,none⟩=some (.slice none 0 0)
 q0:wx.cell? ⟨w.heap.size+1,0,none⟩=some (.bool B)
 q1:wx.cell? ⟨w.heap.size+1,1,none⟩=some V
 z0:∀o,wx.frozen? ⟨w.heap.size,o,none⟩=false
 z1:∀o,wx.frozen? ⟨w.heap.size+1,o,none⟩=false
 lt:w.heap.size+1<wx.heap.size
theorem RB.ext {w wx wy:World} {B:Bool} {V:Value} (h:RB w wx B V) (hb:Ext wx wy):RB w wy B V:=by
 obtain ⟨hc,hf,hz⟩:=hb.facts
 have:=h.lt
 exact ⟨h.ex.trans hb,(hc _ _ (by omega)).trans h.r0,(hc _ _ (by omega)).trans h.r1,(hc _ _ (by omega)).trans h.q0,(hc _ _ (by omega)).trans h.q1,fun o=>(hf _ _ (by omega)).trans (h.z0 o),fun o=>(hf _ _ (by omega)).trans (h.z1 o),hz _ h.lt⟩
theorem RB.facts {w wx:World} {B:Bool} {V:Value} (h:RB w wx B V):wx.cell? ⟨w.heap.size,0,none⟩=some (.bool false)∧wx.cell? ⟨w.heap.size,1,none⟩=some (.slice none 0 0)∧wx.cell? ⟨w.heap.size+1,0,none⟩=some (.bool B)∧wx.cell? ⟨w.heap.size+1,1,none⟩=some V ∧
  (∀o,wx.frozen? ⟨w.heap.size,o,none⟩=false)∧(∀o,wx.frozen? ⟨w.heap.size+1,o,none⟩=false)∧w.heap.size+1<wx.heap.size:=⟨h.r0,h.r1,h.q0,h.q1,h.z0,h.z1,h.lt⟩
theorem RB.start (w:World):RB w ((w.alloc (.cells #[.bool false,.slice none 0 0] 75)).alloc (.cells #[.bool false,.slice none 0 0] 75)) false (.slice none 0 0):=by
 refine ⟨((Ext.refl w).alloc _).alloc _,?_,?_,by simp [go_sem],by simp [go_sem],fun o=>?_,fun o=>by simp [go_sem],by simp⟩
 ·rw [Below.cell (p:=⟨w.heap.size,0,none⟩) ((Ext.refl (w.alloc (.cells #[.bool false,.slice none 0 0] 75))).alloc _) (by simp)]
  simp [go_sem]
 ·rw [Below.cell (p:=⟨w.heap.size,1,none⟩) ((Ext.refl (w.alloc (.cells #[.bool false,.slice none 0 0] 75))).alloc _) (by simp)]
  simp [go_sem]
 ·rw [((Ext.refl (w.alloc (.cells #[.bool false,.slice none 0 0] 75))).alloc _).facts.2.1 _ _ (by simp)]
  simp [go_sem]
theorem RB.back {w wx:World} {B:Bool} {V:Value} (h:RB w wx B V) (b:Bool):RB w (wx.setCell ⟨w.heap.size+1,0,none⟩ (.bool b)) b V:=by
 refine ⟨Below.setCell h.ex (by simp) _,?_,?_,World.cell?_setCell_same _ _ _ h.q0,?_,fun o=>(World.frozen?_setCell _ _ _ _).trans (h.z0 o),fun o=>(World.frozen?_setCell _ _ _ _).trans (h.z1 o),by simpa using h.lt⟩
 ·rw [World.cell?_setCell_other _ _ _ _ (by simp)];exact h.r0
 ·rw [World.cell?_setCell_other _ _ _ _ (by simp)];exact h.r1
 ·rw [World.cell?_setCell_other _ _ _ _ (by simp)];exact h.q1
theorem RB.cells {w wx:World} {B:Bool} {V:Value} (h:RB w wx B V) (V2:Value):RB w (wx.setCell ⟨w.heap.size+1,1,none⟩ V2) B V2:=by
 refine ⟨Below.setCell h.ex (by simp) _,?_,?_,?_,World.cell?_setCell_same _ _ _ h.q1,fun o=>(World.frozen?_setCell _ _ _ _).trans (h.z0 o),fun o=>(World.frozen?_setCell _ _ _ _).trans (h.z1 o),by simpa using h.lt⟩
 ·rw [World.cell?_setCell_other _ _ _ _ (by simp)];exact h.r0
 ·rw [World.cell?_setCell_other _ _ _ _ (by simp)];exact h.r1
 ·rw [World.cell?_setCell_other _ _ _ _ (by simp)];exact h.q0
theorem RB.fin {w wx:World} {B:Bool} {V:Value} (h:RB w wx B V):Ext w ((wx.setCell ⟨w.heap.size,0,none⟩ (.bool B)).setCell ⟨w.heap.size,1,none⟩ V):=Below.setCell (Below.setCell h.ex (by simp) _) (by simp) _
theorem zbh {w:World} {g:Nat} {u0 u1 v0 v1:Value} (h0:w.cell? ⟨g,0,none⟩=some u0) (h1:w.cell? ⟨g,1,none⟩=some u1):(w.setCell ⟨g,0,none⟩ v0).cell? ⟨g,0,none⟩=some v0∧((w.setCell ⟨g,0,none⟩ v0).setCell ⟨g,1,none⟩ v1).cell? ⟨g,1,none⟩=some v1 :=
 ⟨World.cell?_setCell_same w ⟨g,0,none⟩ v0 h0,World.cell?_setCell_same _ ⟨g,1,none⟩ v1 ((World.cell?_setCell_other w ⟨g,0,none⟩ ⟨g,1,none⟩ v0 (by simp)).trans h1)⟩
theorem ziS {s:List UInt8} (h:(s==[102,114,111,110,116])=true∨decide (s.take 6=[102,114,111,110,116,32])=true):rowR atoiO s=if s.drop 5=[] then some ⟨false,[]⟩ else (parseT atoiO ((s.drop 5).drop 1)).map fun t=>⟨false,t.cells⟩:=by
 rw [rowR]
 refine if_pos ?_
 rcases h with h | h
 ·exact .inl (by simpa [sideB] using h)
 ·exact .inr (of_decide_eq_true h)
theorem zkI {s:List UInt8} (h1:(s==[102,114,111,110,116])=false) (h2:decide (s.take 6=[102,114,111,110,116,32])=false) (h:(s==[98,97,99,107])=true∨decide (s.take 5=[98,97,99,107,32])=true) :
  rowR atoiO s=if s.drop 4=[] then some ⟨true,[]⟩ else (parseT atoiO ((s.drop 4).drop 1)).map fun t=>⟨true,t.cells⟩:=by
 rw [rowR,if_neg (by rintro (h9 | h9);exact absurd h9 (by simpa [sideB] using h1);exact absurd h9 (of_decide_eq_false h2))]
 refine if_pos ?_
 rcases h with h | h
 ·exact .inl (by simpa [sideB] using h)
 ·exact .inr (of_decide_eq_true h)
theorem zla {s:List UInt8} (h1:(s==[102,114,111,110,116])=false) (h2:decide (s.take 6=[102,114,111,110,116,32])=false) (h3:(s==[98,97,99,107])=false) (h4:decide (s.take 5=[98,97,99,107,32])=false):rowR atoiO s=none:=by
 rw [rowR,if_neg (by rintro (h9 | h9);exact absurd h9 (by simpa [sideB] using h1);exact absurd h9 (of_decide_eq_false h2)),if_neg (by rintro (h9 | h9);exact absurd h9 (by simpa [sideB] using h3);exact absurd h9 (of_decide_eq_false h4))]
theorem zeB {s p:List UInt8} {k:Nat} (hp:p.length=k+1) (h:decide (s.take (k+1)=p)=true):(s.drop k≠[])∧k+1≤s.length:=by
 have h1:=congrArg List.length (of_decide_eq_true h)
 rw [List.length_take,hp] at h1
 refine ⟨fun e=>?_,by omega⟩
 have h2:=congrArg List.length e
 simp at h2
 omega
set_option maxHeartbeats 8000000 in
theorem zkh (s:List UInt8) (hs:s.length≤10000) (w:World):Calls Tryz.prog 82 #[.string ⟨s.toArray⟩] w (RowR s w):=by
 have HSF:=Lib.hid (show ∀(w':World),Calls Tryz.prog 54 #[.string ⟨s.toArray⟩,.string ⟨#[102,114,111,110,116,32]⟩] w' fun e w''=>e = .returned (.bool (decide (s.take 6=[102,114,111,110,116,32])))∧Ext w' w'' from fun w'=>zdt s [102,114,111,110,116,32] (by decide) w')
 have HSB:=Lib.hid (show ∀(w':World),Calls Tryz.prog 54 #[.string ⟨s.toArray⟩,.string ⟨#[98,97,99,107,32]⟩] w' fun e w''=>e = .returned (.bool (decide (s.take 5=[98,97,99,107,32])))∧Ext w' w'' from fun w'=>zdt s [98,97,99,107,32] (by decide) w')
 have hrf:=ziS (s:=s)
 have hrb:=zkI (s:=s)
 have hrn:=zla (s:=s)
 have htf:=fun h=>zeB (s:=s) (p:=[102,114,111,110,116,32]) (k:=5) rfl h
 have htb:=fun h=>zeB (s:=s) (p:=[98,97,99,107,32]) (k:=4) rfl h
 have hef:(s==[102,114,111,110,116])=true→s=[102,114,111,110,116]:=fun h=>by simpa using h
 have heb:(s==[98,97,99,107])=true→s=[98,97,99,107]:=fun h=>by simpa using h
 have hx5:=fun n (h:s.length≤n)=>zag s 5 n h
 have hx4:=fun n (h:s.length≤n)=>zag s 4 n h
 have hPR:=fun (r:List UInt8) (hr:r.length≤10000) (w':World)=>zbO r hr w'
 generalize hbf:(s==[102,114,111,110,116])=bf at *
 generalize hbb:(s==[98,97,99,107])=bb at *
 generalize hdf:decide (s.take 6=[102,114,111,110,116,32])=df at *
 generalize hdb:decide (s.take 5=[98,97,99,107,32])=db at *
 clear hdf hdb
 have HRB:=Lib.hid (RB.start w)
 cases bf
 case true =>
  have hrr:=hrf (.inl rfl)
  have hss:=hef rfl
  subst hss
  have HV:=Lib.hid (show rowR atoiO [102,114,111,110,116]=some ⟨false,[]⟩ from hrr)
  have hxx:=hx5 5 (by decide)
  clear hrr hrf hrb hrn htf htb hef heb hPR hx4
  have HP1:=Lib.hid trivial
  have HCE:=Lib.hid trivial
  have HV3:=Lib.hid trivial
  go_enter Tryz.func82,Tryz.ntmps82
  go_wp2_with (first
   | (go_at_call 54;first
    | ((with_reducible refine (HSF.out _).mono ?_);rintro e w1 ⟨rfl,hq1⟩;have HR1:=Lib.hid (HRB.out.ext (by repeat (first|exact zr _|assumption|refine za ?_ _|refine zd ?_|refine zn ?_ _|refine zt ?_ (by assumption)):Ext _ w1));obtain ⟨a0,a1,a2,a3,a4,a5,a6⟩:=HR1.out.facts)
    | ((with_reducible refine (HSB.out _).mono ?_);rintro e w2 ⟨rfl,hq2⟩;have HR2:=Lib.hid (HR1.out.ext (by repeat (first|exact zr _|assumption|refine za ?_ _|refine zd ?_|refine zn ?_ _|refine zt ?_ (by assumption)):Ext w1 w2));obtain ⟨b0,b1,b2,b3,b4,b5,b6⟩:=HR2.out.facts))
   | (go_at_call 117;((with_reducible refine (HP1.out _).mono ?_);skip))
   | (go_at_call 118;((with_reducible refine (HCE.out _ _ _ (HV3.out.ext (by repeat (first|exact zr _|assumption|refine za ?_ _|refine zd ?_|refine zn ?_ _|refine zt ?_ (by assumption))))).mono ?_);rintro e w4 ⟨A4,n4,c4,rfl,hq4,hv4,hb4,hc4⟩;have HV4:=Lib.hid hv4;have HR4:=Lib.hid (HR3.out.ext (by repeat (first|exact zr _|assumption|refine za ?_ _|refine zd ?_|refine zn ?_ _|refine zt ?_ (by assumption)):Ext w3 w4));obtain ⟨k0,k1,k2,k3,k4,k5,k6⟩:=HR4.out.facts;have HB4:=Lib.hid (show 0<n4→∀b off,A4=some ⟨b,off,none⟩→w.heap.size+2≤b from fun h b off e=>by have h8:=hb4 h b off e;have h9:=HR3.out.lt;have h7:=Below.size (show Ext w3 _ by repeat (first|exact zr _|assumption|refine za ?_ _|refine zd ?_|refine zn ?_ _|refine zt ?_ (by assumption)));omega);clear hv4 hb4)))
  exact bodyPost_ret (v := .tuple #[.agg #[.bool false,.slice none 0 0],.bool true]) (by simp [results,Tryz.f82,go_sem]) rfl (RowR.yes HV.out HRB.out.ex (Vec.none_ _ _ _) (fun k hk=>by simp at hk) (by unfold maxLen;omega) (fun h=>absurd h (by omega)) (Nat.le_refl _))
 case false =>
  cases df
  case true =>
   have hrr:=hrf (.inr rfl)
   obtain ⟨hne,hl6⟩:=htf rfl
   have hxx:=hx5 s.length (Nat.le_refl _)
   have p5:(5:Int)≤(s.length:Int):=by omega
   clear hrf hrb hrn htf htb hef heb hPR hx4 hx5
   obtain ⟨R,hR⟩:∃R,s.drop 5=R:=⟨_,rfl⟩
   obtain ⟨R1,hR1⟩:∃R1,R.drop 1=R1:=⟨_,rfl⟩
   have hx1:=zag R 1 R.length (Nat.le_refl _)
   rw [hR] at hne hrr hxx
   rw [hR1] at hrr hx1
   rw [if_neg hne] at hrr
   have hRl:R.length+5=s.length:=by rw [←hR,List.length_drop];omega
   have hR1l:R1.length≤10000:=by rw [←hR1,List.length_drop];omega
   have p1:((R.length:Int)==0)=false:=by rw [beq_eq_false_iff_ne];have:=List.length_pos_iff.2 hne;omega
   have p2:(1:Int)≤(R.length:Int):=by have:=List.length_pos_iff.2 hne;omega
   have HPR:=Lib.hid (fun (w':World)=>zbO R1 hR1l w')
   clear hR hR1 hne hR1l
   cases hp:parseT atoiO R1 with
   | none =>
    rw [hp] at hrr
    have HV:=Lib.hid hrr
    have HP1:=Lib.hid (show ∀(w':World),Calls Tryz.prog 117 #[.string ⟨R1.toArray⟩] w' fun e w''=>e = .returned (.tuple #[.slice none 0 0,.int .i64 12])∧Ext w' w'' from fun w'=>by
     refine (HPR.out w').mono ?_
     rintro e w9 ⟨v,x,rfl,hb,⟨_,rfl,rfl⟩ | ⟨t,h2,_⟩⟩
     ·exact ⟨rfl,hb⟩
     ·rw [hp] at h2;cases h2)
    clear hrr hp HPR
    have HCE:=Lib.hid trivial
    have HV3:=Lib.hid trivial
    go_enter Tryz.func82,Tryz.ntmps82
    go_wp2_with (first
     | (go_at_call 54;first
      | ((with_reducible refine (HSF.out _).mono ?_);rintro e w1 ⟨rfl,hq1⟩;have HR1:=Lib.hid (HRB.out.ext (by repeat (first|exact zr _|assumption|refine za ?_ _|refine zd ?_|refine zn ?_ _|refine zt ?_ (by assumption)):Ext _ w1));obtain ⟨a0,a1,a2,a3,a4,a5,a6⟩:=HR1.out.facts)
      | ((with_reducible refine (HSB.out _).mono ?_);rintro e w2 ⟨rfl,hq2⟩;have HR2:=Lib.hid (HR1.out.ext (by repeat (first|exact zr _|assumption|refine za ?_ _|refine zd ?_|refine zn ?_ _|refine zt ?_ (by assumption)):Ext w1 w2));obtain ⟨b0,b1,b2,b3,b4,b5,b6⟩:=HR2.out.facts))
     | (go_at_call 117;((with_reducible refine (HP1.out _).mono ?_);rintro e w3 ⟨rfl,hq3⟩;have HR3:=Lib.hid (HR1.out.ext (by repeat (first|exact zr _|assumption|refine za ?_ _|refine zd ?_|refine zn ?_ _|refine zt ?_ (by assumption)):Ext _ w3));obtain ⟨d0,d1,d2,d3,d4,d5,d6⟩:=HR3.out.facts))
     | (go_at_call 118;((with_reducible refine (HCE.out _ _ _ (HV3.out.ext (by repeat (first|exact zr _|assumption|refine za ?_ _|refine zd ?_|refine zn ?_ _|refine zt ?_ (by assumption))))).mono ?_);rintro e w4 ⟨A4,n4,c4,rfl,hq4,hv4,hb4,hc4⟩;have HV4:=Lib.hid hv4;have HR4:=Lib.hid (HR3.out.ext (by repeat (first|exact zr _|assumption|refine za ?_ _|refine zd ?_|refine zn ?_ _|refine zt ?_ (by assumption)):Ext w3 w4));obtain ⟨k0,k1,k2,k3,k4,k5,k6⟩:=HR4.out.facts;have HB4:=Lib.hid (show 0<n4→∀b off,A4=some ⟨b,off,none⟩→w.heap.size+2≤b from fun h b off e=>by have h8:=hb4 h b off e;have h9:=HR3.out.lt;have h7:=Below.size (show Ext w3 _ by repeat (first|exact zr _|assumption|refine za ?_ _|refine zd ?_|refine zn ?_ _|refine zt ?_ (by assumption)));omega);clear hv4 hb4)))
    have HRX:=Lib.hid HR3.out
    obtain ⟨y0,y1⟩:=zbh (v0 := .bool false) (v1 := .slice none 0 0) HRX.out.r0 HRX.out.r1
    exact bodyPost_ret (v := .tuple #[.agg #[.bool false,.slice none 0 0],.bool false]) (by simp [results,Tryz.f82,go_sem,y0,y1]) rfl (RowR.no HV.out HRX.out.fin)
   | some t =>
    rw [hp] at hrr
    have HV:=Lib.hid (show rowR atoiO s=some ⟨false,t.cells⟩ from hrr)
    obtain ⟨g1,g2,g3⟩:=(zaT zgD).1 hp
    obtain ⟨g4,g5,g6,g8⟩:=zgH g2
    have g7:=zav t
    have HBY:=Lib.hid (show Bytes t.cells from zb4 (zdR g6))
    have HCL:=Lib.hid g8
    have HP1:=Lib.hid (show ∀(w':World),Calls Tryz.prog 117 #[.string ⟨R1.toArray⟩] w' fun e w''=>∃(A1:Option Addr) (c1:Nat),e = .returned (.tuple #[.slice A1 t.cnt c1,.int .i64 0])∧Ext w' w''∧Tv w'' A1 t.cnt t from fun w'=>by
     refine (HPR.out w').mono ?_
     rintro e w9 ⟨v,x,rfl,hb,⟨h2,_,_⟩ | ⟨t2,h2,rfl,ho⟩⟩
     ·rw [hp] at h2;cases h2
     ·rw [hp] at h2
      cases h2
      obtain ⟨A1,c1,rfl,hv⟩:=zaD ho (by omega)
      exact ⟨A1,c1,rfl,hb,hv.tv⟩)
    have HCE:=Lib.hid (fun (A1:Option Addr) (c1:Nat) (w':World) (h:Tv w' A1 t.cnt t)=>zeM 5000 (Nat.le_refl _) t (by omega) g6 g8 A1 t.cnt c1 w' h)
    clear hrr hp HPR g1 g2 g3 g4 g5 g6 g7 g8
    go_enter Tryz.func82,Tryz.ntmps82
    go_wp2_with (first
     | (go_at_call 54;first
      | ((with_reducible refine (HSF.out _).mono ?_);rintro e w1 ⟨rfl,hq1⟩;have HR1:=Lib.hid (HRB.out.ext (by repeat (first|exact zr _|assumption|refine za ?_ _|refine zd ?_|refine zn ?_ _|refine zt ?_ (by assumption)):Ext _ w1));obtain ⟨a0,a1,a2,a3,a4,a5,a6⟩:=HR1.out.facts)
      | ((with_reducible refine (HSB.out _).mono ?_);rintro e w2 ⟨rfl,hq2⟩;have HR2:=Lib.hid (HR1.out.ext (by repeat (first|exact zr _|assumption|refine za ?_ _|refine zd ?_|refine zn ?_ _|refine zt ?_ (by assumption)):Ext w1 w2));obtain ⟨b0,b1,b2,b3,b4,b5,b6⟩:=HR2.out.facts))
     | (go_at_call 117;((with_reducible refine (HP1.out _).mono ?_);rintro e w3 ⟨A3,c3,rfl,hq3,hv3⟩;have HV3:=Lib.hid hv3;clear hv3;have HR3:=Lib.hid (HR1.out.ext (by repeat (first|exact zr _|assumption|refine za ?_ _|refine zd ?_|refine zn ?_ _|refine zt ?_ (by assumption)):Ext _ w3));obtain ⟨d0,d1,d2,d3,d4,d5,d6⟩:=HR3.out.facts))
     | (go_at_call 118;((with_reducible refine (HCE.out _ _ _ (HV3.out.ext (by repeat (first|exact zr _|assumption|refine za ?_ _|refine zd ?_|refine zn ?_ _|refine zt ?_ (by assumption))))).mono ?_);rintro e w4 ⟨A4,n4,c4,rfl,hq4,hv4,hb4,hc4⟩;have HV4:=Lib.hid hv4;have HR4:=Lib.hid (HR3.out.ext (by repeat (first|exact zr _|assumption|refine za ?_ _|refine zd ?_|refine zn ?_ _|refine zt ?_ (by assumption)):Ext w3 w4));obtain ⟨k0,k1,k2,k3,k4,k5,k6⟩:=HR4.out.facts;have HB4:=Lib.hid (show 0<n4→∀b off,A4=some ⟨b,off,none⟩→w.heap.size+2≤b from fun h b off e=>by have h8:=hb4 h b off e;have h9:=HR3.out.lt;have h7:=Below.size (show Ext w3 _ by repeat (first|exact zr _|assumption|refine za ?_ _|refine zd ?_|refine zn ?_ _|refine zt ?_ (by assumption)));omega);clear hv4 hb4)))
    have HRX:=Lib.hid (HR4.out.cells (.slice A4 n4 c4))
    obtain ⟨y0,y1⟩:=zbh (v0 := .bool false) (v1 := .slice A4 n4 c4) HRX.out.r0 HRX.out.r1
    have HN4:=Lib.hid (show n4≤maxLen by rw [←HV4.out.1];unfold maxLen;have:=HCL.out;omega)
    have HVX:=Lib.hid (show Vec shSt (((w4.setCell ⟨w.heap.size+1,1,none⟩ (.slice A4 n4 c4)).setCell ⟨w.heap.size,0,none⟩ (.bool false)).setCell ⟨w.heap.size,1,none⟩ (.slice A4 n4 c4)) A4 n4 t.cells from HV4.out.keepK (K:=fun b=>w.heap.size+2≤b) HB4.out (by simp [World.setCell]) fun b _ hk o=>by
     have hk2:w.heap.size+2≤b:=hk
     rw [World.cell?_setCell_other _ _ _ _ (by intro e;simp at e <;> omega),World.cell?_setCell_other _ _ _ _ (by intro e;simp at e <;> omega),World.cell?_setCell_other _ _ _ _ (by intro e;simp at e <;> omega)])
    exact bodyPost_ret (v := .tuple #[.agg #[.bool false,.slice A4 n4 c4],.bool true]) (by simp [results,Tryz.f82,go_sem,y0,y1]) rfl (RowR.yes HV.out HRX.out.fin HVX.out HBY.out HN4.out (fun h b off e=>by have:=HB4.out h b off e;omega) hc4)
  case false =>
   cases bb
   case true =>
    have hrr:=hrb rfl rfl (.inl rfl)
    have hss:=heb rfl
    subst hss
    have HV:=Lib.hid (show rowR atoiO [98,97,99,107]=some ⟨true,[]⟩ from hrr)
    have hxx:=hx4 4 (by decide)
    clear hrr hrf hrb hrn htf htb hef heb hPR hx5
    have HP1:=Lib.hid trivial
    have HCE:=Lib.hid trivial
    have HV3:=Lib.hid trivial
    go_enter Tryz.func82,Tryz.ntmps82
    go_wp2_with (first
     | (go_at_call 54;first
      | ((with_reducible refine (HSF.out _).mono ?_);rintro e w1 ⟨rfl,hq1⟩;have HR1:=Lib.hid (HRB.out.ext (by repeat (first|exact zr _|assumption|refine za ?_ _|refine zd ?_|refine zn ?_ _|refine zt ?_ (by assumption)):Ext _ w1));obtain ⟨a0,a1,a2,a3,a4,a5,a6⟩:=HR1.out.facts)
      | ((with_reducible refine (HSB.out _).mono ?_);rintro e w2 ⟨rfl,hq2⟩;have HR2:=Lib.hid (HR1.out.ext (by repeat (first|exact zr _|assumption|refine za ?_ _|refine zd ?_|refine zn ?_ _|refine zt ?_ (by assumption)):Ext w1 w2));obtain ⟨b0,b1,b2,b3,b4,b5,b6⟩:=HR2.out.facts))
     | (go_at_call 117;((with_reducible refine (HP1.out _).mono ?_);skip))
     | (go_at_call 118;((with_reducible refine (HCE.out _ _ _ (HV3.out.ext (by repeat (first|exact zr _|assumption|refine za ?_ _|refine zd ?_|refine zn ?_ _|refine zt ?_ (by assumption))))).mono ?_);rintro e w4 ⟨A4,n4,c4,rfl,hq4,hv4,hb4,hc4⟩;have HV4:=Lib.hid hv4;have HR4:=Lib.hid (HR3.out.ext (by repeat (first|exact zr _|assumption|refine za ?_ _|refine zd ?_|refine zn ?_ _|refine zt ?_ (by assumption)):Ext w3 w4));obtain ⟨k0,k1,k2,k3,k4,k5,k6⟩:=HR4.out.facts;have HB4:=Lib.hid (show 0<n4→∀b off,A4=some ⟨b,off,none⟩→w.heap.size+2≤b from fun h b off e=>by have h8:=hb4 h b off e;have h9:=HR3.out.lt;have h7:=Below.size (show Ext w3 _ by repeat (first|exact zr _|assumption|refine za ?_ _|refine zd ?_|refine zn ?_ _|refine zt ?_ (by assumption)));omega);clear hv4 hb4)))
    have HRX:=Lib.hid (HR1.out.back true)
    obtain ⟨y0,y1⟩:=zbh (v0 := .bool true) (v1 := .slice none 0 0) HRX.out.r0 HRX.out.r1
    exact bodyPost_ret (v := .tuple #[.agg #[.bool true,.slice none 0 0],.bool true]) (by simp [results,Tryz.f82,go_sem,y0,y1]) rfl (RowR.yes HV.out HRX.out.fin (Vec.none_ _ _ _) (fun k hk=>by simp at hk) (by unfold maxLen;omega) (fun h=>absurd h (by omega)) (Nat.le_refl _))
   case false =>
    cases db
    case true =>
     have hrr:=hrb rfl rfl (.inr rfl)
     obtain ⟨hne,hl6⟩:=htb rfl
     have hxx:=hx4 s.length (Nat.le_refl _)
     have p5:(4:Int)≤(s.length:Int):=by omega
     clear hrf hrb hrn htf htb hef heb hPR hx4 hx5
     obtain ⟨R,hR⟩:∃R,s.drop 4=R:=⟨_,rfl⟩
     obtain ⟨R1,hR1⟩:∃R1,R.drop 1=R1:=⟨_,rfl⟩
     have hx1:=zag R 1 R.length (Nat.le_refl _)
     rw [hR] at hne hrr hxx
     rw [hR1] at hrr hx1
     rw [if_neg hne] at hrr
     have hRl:R.length+4=s.length:=by rw [←hR,List.length_drop];omega
     have hR1l:R1.length≤10000:=by rw [←hR1,List.length_drop];omega
     have p1:((R.length:Int)==0)=false:=by rw [beq_eq_false_iff_ne];have:=List.length_pos_iff.2 hne;omega
     have p2:(1:Int)≤(R.length:Int):=by have:=List.length_pos_iff.2 hne;omega
     have HPR:=Lib.hid (fun (w':World)=>zbO R1 hR1l w')
     clear hR hR1 hne hR1l
     cases hp:parseT atoiO R1 with
     | none =>
      rw [hp] at hrr
      have HV:=Lib.hid hrr
      have HP1:=Lib.hid (show ∀(w':World),Calls Tryz.prog 117 #[.string ⟨R1.toArray⟩] w' fun e w''=>e = .returned (.tuple #[.slice none 0 0,.int .i64 12])∧Ext w' w'' from fun w'=>by
       refine (HPR.out w').mono ?_
       rintro e w9 ⟨v,x,rfl,hb,⟨_,rfl,rfl⟩ | ⟨t,h2,_⟩⟩
       ·exact ⟨rfl,hb⟩
       ·rw [hp] at h2;cases h2)
      clear hrr hp HPR
      have HCE:=Lib.hid trivial
      have HV3:=Lib.hid trivial
      go_enter Tryz.func82,Tryz.ntmps82
      go_wp2_with (first
       | (go_at_call 54;first
        | ((with_reducible refine (HSF.out _).mono ?_);rintro e w1 ⟨rfl,hq1⟩;have HR1:=Lib.hid (HRB.out.ext (by repeat (first|exact zr _|assumption|refine za ?_ _|refine zd ?_|refine zn ?_ _|refine zt ?_ (by assumption)):Ext _ w1));obtain ⟨a0,a1,a2,a3,a4,a5,a6⟩:=HR1.out.facts)
        | ((with_reducible refine (HSB.out _).mono ?_);rintro e w2 ⟨rfl,hq2⟩;have HR2:=Lib.hid (HR1.out.ext (by repeat (first|exact zr _|assumption|refine za ?_ _|refine zd ?_|refine zn ?_ _|refine zt ?_ (by assumption)):Ext w1 w2));obtain ⟨b0,b1,b2,b3,b4,b5,b6⟩:=HR2.out.facts))
       | (go_at_call 117;((with_reducible refine (HP1.out _).mono ?_);rintro e w3 ⟨rfl,hq3⟩;have HR3:=Lib.hid ((Lib.hid (HR2.out.back true)).out.ext (by repeat (first|exact zr _|assumption|refine za ?_ _|refine zd ?_|refine zn ?_ _|refine zt ?_ (by assumption)):Ext _ w3));obtain ⟨d0,d1,d2,d3,d4,d5,d6⟩:=HR3.out.facts))
       | (go_at_call 118;((with_reducible refine (HCE.out _ _ _ (HV3.out.ext (by repeat (first|exact zr _|assumption|refine za ?_ _|refine zd ?_|refine zn ?_ _|refine zt ?_ (by assumption))))).mono ?_);rintro e w4 ⟨A4,n4,c4,rfl,hq4,hv4,hb4,hc4⟩;have HV4:=Lib.hid hv4;have HR4:=Lib.hid (HR3.out.ext (by repeat (first|exact zr _|assumption|refine za ?_ _|refine zd ?_|refine zn ?_ _|refine zt ?_ (by assumption)):Ext w3 w4));obtain ⟨k0,k1,k2,k3,k4,k5,k6⟩:=HR4.out.facts;have HB4:=Lib.hid (show 0<n4→∀b off,A4=some ⟨b,off,none⟩→w.heap.size+2≤b from fun h b off e=>by have h8:=hb4 h b off e;have h9:=HR3.out.lt;have h7:=Below.size (show Ext w3 _ by repeat (first|exact zr _|assumption|refine za ?_ _|refine zd ?_|refine zn ?_ _|refine zt ?_ (by assumption)));omega);clear hv4 hb4)))
      have HRX:=Lib.hid HR3.out
      obtain ⟨y0,y1⟩:=zbh (v0 := .bool true) (v1 := .slice none 0 0) HRX.out.r0 HRX.out.r1
      exact bodyPost_ret (v := .tuple #[.agg #[.bool true,.slice none 0 0],.bool false]) (by simp [results,Tryz.f82,go_sem,y0,y1]) rfl (RowR.no HV.out HRX.out.fin)
     | some t =>
      rw [hp] at hrr
      have HV:=Lib.hid (show rowR atoiO s=some ⟨true,t.cells⟩ from hrr)
      obtain ⟨g1,g2,g3⟩:=(zaT zgD).1 hp
      obtain ⟨g4,g5,g6,g8⟩:=zgH g2
      have g7:=zav t
      have HBY:=Lib.hid (show Bytes t.cells from zb4 (zdR g6))
      have HCL:=Lib.hid g8
      have HP1:=Lib.hid (show ∀(w':World),Calls Tryz.prog 117 #[.string ⟨R1.toArray⟩] w' fun e w''=>∃(A1:Option Addr) (c1:Nat),e = .returned (.tuple #[.slice A1 t.cnt c1,.int .i64 0])∧Ext w' w''∧Tv w'' A1 t.cnt t from fun w'=>by
       refine (HPR.out w').mono ?_
       rintro e w9 ⟨v,x,rfl,hb,⟨h2,_,_⟩ | ⟨t2,h2,rfl,ho⟩⟩
       ·rw [hp] at h2;cases h2
       ·rw [hp] at h2
        cases h2
        obtain ⟨A1,c1,rfl,hv⟩:=zaD ho (by omega)
        exact ⟨A1,c1,rfl,hb,hv.tv⟩)
      have HCE:=Lib.hid (fun (A1:Option Addr) (c1:Nat) (w':World) (h:Tv w' A1 t.cnt t)=>zeM 5000 (Nat.le_refl _) t (by omega) g6 g8 A1 t.cnt c1 w' h)
      clear hrr hp HPR g1 g2 g3 g4 g5 g6 g7 g8
      go_enter Tryz.func82,Tryz.ntmps82
      go_wp2_with (first
       | (go_at_call 54;first
        | ((with_reducible refine (HSF.out _).mono ?_);rintro e w1 ⟨rfl,hq1⟩;have HR1:=Lib.hid (HRB.out.ext (by repeat (first|exact zr _|assumption|refine za ?_ _|refine zd ?_|refine zn ?_ _|refine zt ?_ (by assumption)):Ext _ w1));obtain ⟨a0,a1,a2,a3,a4,a5,a6⟩:=HR1.out.facts)
        | ((with_reducible refine (HSB.out _).mono ?_);rintro e w2 ⟨rfl,hq2⟩;have HR2:=Lib.hid (HR1.out.ext (by repeat (first|exact zr _|assumption|refine za ?_ _|refine zd ?_|refine zn ?_ _|refine zt ?_ (by assumption)):Ext w1 w2));obtain ⟨b0,b1,b2,b3,b4,b5,b6⟩:=HR2.out.facts))
       | (go_at_call 117;((with_reducible refine (HP1.out _).mono ?_);rintro e w3 ⟨A3,c3,rfl,hq3,hv3⟩;have HV3:=Lib.hid hv3;clear hv3;have HR3:=Lib.hid ((Lib.hid (HR2.out.back true)).out.ext (by repeat (first|exact zr _|assumption|refine za ?_ _|refine zd ?_|refine zn ?_ _|refine zt ?_ (by assumption)):Ext _ w3));obtain ⟨d0,d1,d2,d3,d4,d5,d6⟩:=HR3.out.facts))
       | (go_at_call 118;((with_reducible refine (HCE.out _ _ _ (HV3.out.ext (by repeat (first|exact zr _|assumption|refine za ?_ _|refine zd ?_|refine zn ?_ _|refine zt ?_ (by assumption))))).mono ?_);rintro e w4 ⟨A4,n4,c4,rfl,hq4,hv4,hb4,hc4⟩;have HV4:=Lib.hid hv4;have HR4:=Lib.hid (HR3.out.ext (by repeat (first|exact zr _|assumption|refine za ?_ _|refine zd ?_|refine zn ?_ _|refine zt ?_ (by assumption)):Ext w3 w4));obtain ⟨k0,k1,k2,k3,k4,k5,k6⟩:=HR4.out.facts;have HB4:=Lib.hid (show 0<n4→∀b off,A4=some ⟨b,off,none⟩→w.heap.size+2≤b from fun h b off e=>by have h8:=hb4 h b off e;have h9:=HR3.out.lt;have h7:=Below.size (show Ext w3 _ by repeat (first|exact zr _|assumption|refine za ?_ _|refine zd ?_|refine zn ?_ _|refine zt ?_ (by assumption)));omega);clear hv4 hb4)))
      have HRX:=Lib.hid (HR4.out.cells (.slice A4 n4 c4))
      obtain ⟨y0,y1⟩:=zbh (v0 := .bool true) (v1 := .slice A4 n4 c4) HRX.out.r0 HRX.out.r1
      have HN4:=Lib.hid (show n4≤maxLen by rw [←HV4.out.1];unfold maxLen;have:=HCL.out;omega)
      have HVX:=Lib.hid (show Vec shSt (((w4.setCell ⟨w.heap.size+1,1,none⟩ (.slice A4 n4 c4)).setCell ⟨w.heap.size,0,none⟩ (.bool true)).setCell ⟨w.heap.size,1,none⟩ (.slice A4 n4 c4)) A4 n4 t.cells from HV4.out.keepK (K:=fun b=>w.heap.size+2≤b) HB4.out (by simp [World.setCell]) fun b _ hk o=>by
       have hk2:w.heap.size+2≤b:=hk
       rw [World.cell?_setCell_other _ _ _ _ (by intro e;simp at e <;> omega),World.cell?_setCell_other _ _ _ _ (by intro e;simp at e <;> omega),World.cell?_setCell_other _ _ _ _ (by intro e;simp at e <;> omega)])
      exact bodyPost_ret (v := .tuple #[.agg #[.bool true,.slice A4 n4 c4],.bool true]) (by simp [results,Tryz.f82,go_sem,y0,y1]) rfl (RowR.yes HV.out HRX.out.fin HVX.out HBY.out HN4.out (fun h b off e=>by have:=HB4.out h b off e;omega) hc4)
    case false =>
     have HV:=Lib.hid (hrn rfl rfl rfl rfl)
     clear hrf hrb hrn htf htb hef heb hPR hx4 hx5
     have HP1:=Lib.hid trivial
     have HCE:=Lib.hid trivial
     have HV3:=Lib.hid trivial
     go_enter Tryz.func82,Tryz.ntmps82
     go_wp2_with (first
      | (go_at_call 54;first
       | ((with_reducible refine (HSF.out _).mono ?_);rintro e w1 ⟨rfl,hq1⟩;have HR1:=Lib.hid (HRB.out.ext (by repeat (first|exact zr _|assumption|refine za ?_ _|refine zd ?_|refine zn ?_ _|refine zt ?_ (by assumption)):Ext _ w1));obtain ⟨a0,a1,a2,a3,a4,a5,a6⟩:=HR1.out.facts)
       | ((with_reducible refine (HSB.out _).mono ?_);rintro e w2 ⟨rfl,hq2⟩;have HR2:=Lib.hid (HR1.out.ext (by repeat (first|exact zr _|assumption|refine za ?_ _|refine zd ?_|refine zn ?_ _|refine zt ?_ (by assumption)):Ext w1 w2));obtain ⟨b0,b1,b2,b3,b4,b5,b6⟩:=HR2.out.facts))
      | (go_at_call 117;((with_reducible refine (HP1.out _).mono ?_);skip))
      | (go_at_call 118;((with_reducible refine (HCE.out _ _ _ (HV3.out.ext (by repeat (first|exact zr _|assumption|refine za ?_ _|refine zd ?_|refine zn ?_ _|refine zt ?_ (by assumption))))).mono ?_);rintro e w4 ⟨A4,n4,c4,rfl,hq4,hv4,hb4,hc4⟩;have HV4:=Lib.hid hv4;have HR4:=Lib.hid (HR3.out.ext (by repeat (first|exact zr _|assumption|refine za ?_ _|refine zd ?_|refine zn ?_ _|refine zt ?_ (by assumption)):Ext w3 w4));obtain ⟨k0,k1,k2,k3,k4,k5,k6⟩:=HR4.out.facts;have HB4:=Lib.hid (show 0<n4→∀b off,A4=some ⟨b,off,none⟩→w.heap.size+2≤b from fun h b off e=>by have h8:=hb4 h b off e;have h9:=HR3.out.lt;have h7:=Below.size (show Ext w3 _ by repeat (first|exact zr _|assumption|refine za ?_ _|refine zd ?_|refine zn ?_ _|refine zt ?_ (by assumption)));omega);clear hv4 hb4)))
     have HRX:=Lib.hid HR2.out
     obtain ⟨y0,y1⟩:=zbh (v0 := .bool false) (v1 := .slice none 0 0) HRX.out.r0 HRX.out.r1
     exact bodyPost_ret (v := .tuple #[.agg #[.bool false,.slice none 0 0],.bool false]) (by simp [results,Tryz.f82,go_sem,y0,y1]) rfl (RowR.no HV.out HRX.out.fin)
end Go.Proofs.YtkneghkbgingdaaGreatDoor
/- Words of a string,plain: how many,and how long. -/
namespace Go.Proofs.YtkneghkbgingdaaGreatDoor
set_option maxRecDepth 100000
theorem zjc (c:UInt8):∀s:List UInt8,(spl c s).length≤s.length+1∧∀w∈spl c s,w.length≤s.length:=by
 intro s
 induction s with
 | nil=>exact ⟨by simp [spl],fun w hw=>by simp [spl] at hw;subst hw;simp⟩
 | cons x l ih =>
  rw [spl]
  split
  ·refine ⟨by simp;omega,fun w hw=>?_⟩
   rcases List.mem_cons.1 hw with rfl | hw
   ·simp
   ·have:=ih.2 w hw
    simp only [List.length_cons]
    omega
  ·split
   ·rename_i h t e
    rw [e] at ih
    refine ⟨by have:=ih.1;simp only [List.length_cons] at this ⊢;omega,fun w hw=>?_⟩
    rcases List.mem_cons.1 hw with rfl | hw
    ·have:=ih.2 h (by simp)
     simp only [List.length_cons]
     omega
    ·have:=ih.2 w (by simp [hw])
     simp only [List.length_cons]
     omega
   ·exact ⟨by simp,fun w hw=>by simp at hw;subst hw;simp⟩
theorem zlI (c:UInt8) (s:List UInt8):(spl c s).length≤s.length+1:=(zjc c s).1
theorem zf2 (c:UInt8) (s:List UInt8) (k:Nat):((spl c s).getD k []).length≤s.length:=by
 by_cases h:k<(spl c s).length
 ·rw [List.getD_eq_getElem?_getD,List.getElem?_eq_getElem h]
  exact (zjc c s).2 _ (List.getElem_mem h)
 ·rw [List.getD_eq_getElem?_getD,List.getElem?_eq_none (by omega)]
  simp
end Go.Proofs.YtkneghkbgingdaaGreatDoor
