/- The contracts of the reference's Counts, Great, SameInts, Same, and of Same of charts. -/
import Derived.Test.YtkneghkbgingdaaGreatDoorP47
import Derived.Test.YtkneghkbgingdaaGreatDoorP20
import Derived.Test.YtkneghkbgingdaaGreatDoorP27
namespace Go.Proofs.YtkneghkbgingdaaGreatDoor
set_option maxRecDepth 100000
open Go.RowKit Go.ChangeShapes Go.WideShapes Go.Joins
end Go.Proofs.YtkneghkbgingdaaGreatDoor
/- The contracts of twin of rows,both. -/
namespace Go.Proofs.YtkneghkbgingdaaGreatDoor
set_option maxRecDepth 100000
open Go.RowKit Go.ChangeShapes Go.WideShapes Go.Joins
theorem OwnV.but {α:Type} {S:Shp α} {w w':World} {B:Nat} {e:TypeId} {v:Value} {k:Nat} {L:List α} {E:Option Nat} (h:OwnV S w B e v k L) (hb:But E w w') (hne:v.ownBlock=none∨v.ownBlock≠E):OwnV S w' B e v k L:=World.ownsRow.kept h hb hne
end Go.Proofs.YtkneghkbgingdaaGreatDoor
/- The contract of the reference's Twin of rows. -/
namespace Go.Proofs.YtkneghkbgingdaaGreatDoor
set_option maxRecDepth 100000
open Go.RowKit Go.ChangeShapes Go.WideShapes Go.Joins
section
variable {α:Type} {S:Shp α} {P:Program} {ops:Array Oper} {rest:List Oper} {o:Oper} {a:Act} {K:Act→World→Prop} {Q:Exit→Act→World→Prop} {E:Prop} {w wx:World}
end
end Go.Proofs.YtkneghkbgingdaaGreatDoor
/- The contracts of Same of charts,both. -/
namespace Go.Proofs.YtkneghkbgingdaaGreatDoor
set_option maxRecDepth 100000
open Go.RowKit Go.ChangeShapes Go.WideShapes Go.Joins
theorem znr {xs ys:List Ro} {n:Nat} (hx:xs.length=n) (hy:ys.length=n) (h:∀j,j<n→xs.getD j ro0=ys.getD j ro0):xs=ys:=by
 apply List.ext_getElem (by omega)
 intro i h1 h2
 have:=h i (by omega)
 rwa [List.getD_eq_getElem?_getD,List.getD_eq_getElem?_getD,List.getElem?_eq_getElem h1,List.getElem?_eq_getElem h2] at this
def sameC (s:Int) (l:List Ro) (t:Int) (r:List Ro):Bool:=decide (s=t∧l=r)
theorem zcH {s t:Int} {l r:List Ro} (h:¬(s=t∧l=r)):sameC s l t r=false:=by simpa [sameC] using h
theorem zeH (s:Int) (l:List Ro):sameC s l s l=true:=by simp [sameC]
set_option maxRecDepth 100000 in
set_option maxHeartbeats 4000000 in
theorem zh6 (s t:Int) (A B:Option Addr) (m n c d:Nat) (l r:List Ro) (w:World) (hr:Rws w (fun _=>True) A m l) (hr2:Rws w (fun _=>True) B n r) :
  Calls Tryz.prog 14 #[.agg #[.int .i64 s,.slice A m c],.agg #[.int .i64 t,.slice B n d]] w fun e w'=>e = .returned (.bool (sameC s l t r))∧Ext w w':=by
 have hml:=hr.len
 have hnl:=hr2.len
 have hmm:=hr.1
 unfold maxLen at hmm
 have hm2:(m:Int)≤9223372036854775807:=by omega
 have HR:=Lib.hid hr
 have HL:=Lib.hid hml
 have HR2:=Lib.hid hr2
 have HL2:=Lib.hid hnl
 clear hr hml hmm hr2 hnl
 by_cases hst:s=t
 ·subst hst
  by_cases hmn:m=n
  ·subst hmn
   go_enter Tryz.func14,Tryz.ntmps14
   go_wp2_with fail
   go_loopw [5] (fun i wr=>∃(k:Nat),i = .int .i64 k∧k≤m∧Hid (∀j,j<k→l.getD j ro0=r.getD j ro0)∧Hid (Ext ((w.alloc (.cells #[.int .i64 s,.slice A m c] 24)).alloc (.cells #[.int .i64 s,.slice B m d] 24)) wr)) (fun i _=>m-(intOf i).toNat)
   case atStart=>exact ⟨0,rfl,Nat.zero_le _,Lib.hid (fun j hj=>absurd hj (by omega)),Lib.hid (by repeat (first|exact zr _|assumption|refine za ?_ _|refine zd ?_|refine zn ?_ _|refine zt ?_ (by assumption)))⟩
   case round =>
    obtain ⟨k,rfl,hk,HG,HX0⟩:=hrel
    have hx:=HX0.out
    obtain ⟨hf1,hf2,hf3⟩:=hx.facts
    by_cases hlt:k<m
    ·obtain ⟨b,off,A',m',c',rfl,hb0, -,c0,c1,hv,hm',hby, -⟩:=(HR.out.ext ((Ext.alloc (Ext.alloc (Ext.refl w) _) _).trans hx)).at_ hlt
     obtain ⟨b',off',B',n',d',rfl,hb0', -,e0,e1,hv',hn',hby', -⟩:=(HR2.out.ext ((Ext.alloc (Ext.alloc (Ext.refl w) _) _).trans hx)).at_ hlt
     have q0:(0:Int)≤(k:Int):=by omega
     have q1:(k:Int)<(m:Int):=by omega
     have HW:=Lib.hid hv
     have HW':=Lib.hid hv'
     have hm':=Lib.hid hm'
     clear hv hv' hn' hby hby'
     generalize hrow:l.getD k ro0=x at *
     generalize hrow':r.getD k ro0=y at *
     have HX:=Lib.hid hrow
     have HY:=Lib.hid hrow'
     clear hrow hrow'
     obtain ⟨xb,xc⟩:=x
     obtain ⟨yb,yc⟩:=y
     simp only at c0 e0
     have hz1:w.heap.size<wr.heap.size:=hf3 _ (by simp only [World.size_alloc];omega)
     have hz2:w.heap.size+1<wr.heap.size:=hf3 _ (by simp only [World.size_alloc];omega)
     obtain ⟨wq,rfl⟩:∃wq:World,wq=wr:=⟨_,rfl⟩
     have g0:wq.cell? ⟨w.heap.size,1,none⟩=some (.slice (some ⟨b,off,none⟩) m c):=by rw [hf1 _ _ (by simp only [World.size_alloc];omega)];simp [go_sem]
     have g1:wq.cell? ⟨w.heap.size+1,1,none⟩=some (.slice (some ⟨b',off',none⟩) m d):=by rw [hf1 _ _ (by simp only [World.size_alloc];omega)];simp [go_sem]
     by_cases hbb:xb=yb
     ·subst hbb
      by_cases hcc:xc=yc
      ·subst hcc
       have HN:=Lib.hid (show ∀j,j<k+1→l.getD j ro0=r.getD j ro0 from fun j hj=>by
        rcases Nat.lt_or_ge j k with h | h
        ·exact HG.out j h
        ·obtain rfl:j=k:=by omega
         rw [HX.out,HY.out])
       go_wp2_with fail
       go_region_held3 (fun w'=>w'.cell? ⟨w.heap.size,1,none⟩=some (.slice (some ⟨b,off,none⟩) m c)∧w'.cell? ⟨w.heap.size+1,1,none⟩=some (.slice (some ⟨b',off',none⟩) m d)∧w'.cell? ⟨b,off+k*2,none⟩=some (.bool xb)∧w'.cell? ⟨b,off+k*2+1,none⟩=some (.slice A' m' c')∧w'.cell? ⟨b',off'+k*2,none⟩=some (.bool xb)∧w'.cell? ⟨b',off'+k*2+1,none⟩=some (.slice B' n' d')) (go_keep)
        (first | (go_at_call 49;((with_reducible refine (zdb m' n' c' d' A' B' xc xc _ (HW.out.ext (by repeat (first|exact zr _|assumption|refine za ?_ _|refine zd ?_|refine zn ?_ _|refine zt ?_ (by assumption)))) (HW'.out.ext (by repeat (first|exact zr _|assumption|refine za ?_ _|refine zd ?_|refine zn ?_ _|refine zt ?_ (by assumption)))) hm'.out).mono ?_);rintro e w1 ⟨rfl,hq1⟩;rw [show decide (xc=xc)=true from decide_eq_true rfl];have hq9:Ext wq w1:=(by repeat (first|exact zr _|assumption|refine za ?_ _|refine zd ?_|refine zn ?_ _|refine zt ?_ (by assumption)));obtain ⟨hg1,hg2,hg3⟩:=hq9.facts)))
       go_wp2
       go_roundw
       case rel=>exact ⟨k+1,by go_num,by omega,HN,Lib.hid (hx.trans hq9)⟩
       case measure=>simp [intOf];omega
      ·have HD:=Lib.hid (show decide (xc=yc)=false by simp [hcc])
       have HN:=Lib.hid (zcH (s:=s) (t:=s) (l:=l) (r:=r) (fun h=>by
        have h1:=HX.out
        rw [h.2,HY.out] at h1
        cases h1
        exact hcc rfl))
       clear hcc
       go_wp2_with fail
       go_region_held3 (fun w'=>w'.cell? ⟨w.heap.size,1,none⟩=some (.slice (some ⟨b,off,none⟩) m c)∧w'.cell? ⟨w.heap.size+1,1,none⟩=some (.slice (some ⟨b',off',none⟩) m d)∧w'.cell? ⟨b,off+k*2,none⟩=some (.bool xb)∧w'.cell? ⟨b,off+k*2+1,none⟩=some (.slice A' m' c')∧w'.cell? ⟨b',off'+k*2,none⟩=some (.bool xb)∧w'.cell? ⟨b',off'+k*2+1,none⟩=some (.slice B' n' d')) (go_keep)
        (first | (go_at_call 49;((with_reducible refine (zdb m' n' c' d' A' B' xc yc _ (HW.out.ext (by repeat (first|exact zr _|assumption|refine za ?_ _|refine zd ?_|refine zn ?_ _|refine zt ?_ (by assumption)))) (HW'.out.ext (by repeat (first|exact zr _|assumption|refine za ?_ _|refine zd ?_|refine zn ?_ _|refine zt ?_ (by assumption)))) hm'.out).mono ?_);rintro e w1 ⟨rfl,hq1⟩;rw [HD.out];have hq9:Ext wq w1:=(by repeat (first|exact zr _|assumption|refine za ?_ _|refine zd ?_|refine zn ?_ _|refine zt ?_ (by assumption)));obtain ⟨hg1,hg2,hg3⟩:=hq9.facts)))
       go_wp2
       go_ret
       exact ⟨by rw [HN.out];rfl,(Ext.alloc (Ext.alloc (Ext.refl w) _) _).trans (hx.trans hq9)⟩
     ·have HN:=Lib.hid (zcH (s:=s) (t:=s) (l:=l) (r:=r) (fun h=>by
       have h1:=HX.out
       rw [h.2,HY.out] at h1
       cases h1
       exact hbb rfl))
      have hb9:(xb=true∧yb=false)∨(xb=false∧yb=true):=by cases xb <;> cases yb <;> simp at hbb ⊢
      clear hbb
      rcases hb9 with ⟨rfl,rfl⟩ | ⟨rfl,rfl⟩
      all_goals
       go_wp2_with fail
       go_quiet (fail)
       go_wp2
       go_ret
       exact ⟨by rw [HN.out];rfl,(Ext.alloc (Ext.alloc (Ext.refl w) _) _).trans (by repeat (first|exact zr _|assumption|refine za ?_ _|refine zd ?_|refine zn ?_ _|refine zt ?_ (by assumption)))⟩
    ·obtain rfl:k=m:=by omega
     have HE:=Lib.hid (znr HL.out HL2.out HG.out)
     have HN:=Lib.hid (show sameC s l s r=true by rw [HE.out,zeH])
     go_wp2_with fail
     go_ret
     exact ⟨by rw [HN.out];rfl,(Ext.alloc (Ext.alloc (Ext.refl w) _) _).trans hx⟩
  ·have HN:=Lib.hid (zcH (s:=s) (t:=s) (l:=l) (r:=r) (fun h=>hmn (by rw [←HL.out,h.2,HL2.out])))
   have hne:((m:Int) != (n:Int))=true:=by simp;omega
   go_enter Tryz.func14,Tryz.ntmps14
   go_wp2_with fail
   go_ret
   exact ⟨by rw [HN.out];rfl,by repeat (first|exact zr _|assumption|refine za ?_ _|refine zd ?_|refine zn ?_ _|refine zt ?_ (by assumption))⟩
 ·have HN:=Lib.hid (zcH (s:=s) (t:=t) (l:=l) (r:=r) (fun h=>hst h.1))
  have hne:(s != t)=true:=by simpa using hst
  clear hst
  go_enter Tryz.func14,Tryz.ntmps14
  go_wp2_with fail
  go_ret
  exact ⟨by rw [HN.out];rfl,by repeat (first|exact zr _|assumption|refine za ?_ _|refine zd ?_|refine zn ?_ _|refine zt ?_ (by assumption))⟩
end Go.Proofs.YtkneghkbgingdaaGreatDoor
/- The contracts of Join of charts,both. -/
namespace Go.Proofs.YtkneghkbgingdaaGreatDoor
set_option maxRecDepth 100000
open Go.RowKit Go.ChangeShapes Go.WideShapes Go.Joins
theorem zaQ {w:World} {g:Nat} {u0 u1 v0 v1:Value} (h0:w.cell? ⟨g,0,none⟩=some u0) (h1:w.cell? ⟨g,1,none⟩=some u1):(w.setCell ⟨g,0,none⟩ v0).cell? ⟨g,0,none⟩=some v0∧((w.setCell ⟨g,0,none⟩ v0).setCell ⟨g,1,none⟩ v1).cell? ⟨g,1,none⟩=some v1 :=
 ⟨World.cell?_setCell_same w ⟨g,0,none⟩ v0 h0,World.cell?_setCell_same _ ⟨g,1,none⟩ v1 ((World.cell?_setCell_other w ⟨g,0,none⟩ ⟨g,1,none⟩ v0 (by simp)).trans h1)⟩
theorem zit {w:World} {g B B' n:Nat} {A:Option Addr} {l:List Ro} {v0 v1:Value} (h:Rws w (fun b=>B≤b) A n l) (hg:g<B) (hB:B'≤B):Rws ((w.setCell ⟨g,0,none⟩ v0).setCell ⟨g,1,none⟩ v1) (fun b=>B'≤b) A n l:=by
 refine h.keep (Nat.le_of_eq (by simp)) fun b hb hk=>⟨Nat.le_trans hB hk,fun o=>?_⟩
 have hk':B≤b:=hk
 have hne:¬(b=g):=by omega
 rw [World.cell?_setCell_other _ ⟨g,1,none⟩ ⟨b,o,none⟩ v1 (by simp <;> omega),World.cell?_setCell_other _ ⟨g,0,none⟩ ⟨b,o,none⟩ v0 (by simp <;> omega)]
end Go.Proofs.YtkneghkbgingdaaGreatDoor
/- ReadRows. -/
namespace Go.Proofs.YtkneghkbgingdaaGreatDoor
set_option maxRecDepth 100000
set_option maxRecDepth 100000
open Go.RowKit Go.ChangeShapes Go.WideShapes Go.Joins
theorem Ext.setq {a b:World} (h:Ext a b) {p:Addr} (_:p.block<a.heap.size) (u:Value):Ext (a.setCell p u) (b.setCell p u):=by
 refine ⟨h.os,h.tape,h.output,by simpa using h.size,fun k hk=>?_⟩
 have hk2:k<a.heap.size:=by simpa using hk
 simp only [World.setCell,Array.getElem?_modify]
 rw [h.block k hk2]
theorem OwnQ.set {w:World} {B:Nat} {e:TypeId} {v:Value} {k:Nat} {l:List Ro} (h:OwnQ w B e v k l) {p:Addr} (hp:p.block<B) (u:Value):OwnQ (w.setCell p u) B e v k l:=by
 have hbl:=h.blk
 obtain ⟨xs,h1,h2,h3⟩:=h
 refine ⟨xs,h1.but (E:=some p.block) (But.own (But.refl _ _) rfl u) ?_,h2.keep (by simp) fun b hb hk=>⟨⟨hk.1,hk.2⟩,fun o=>?_⟩,h3⟩
 ·cases hv:v.ownBlock with
  | none=>exact .inl rfl
  | some b =>
   refine .inr fun e9=>?_
   have h9:=hbl b hv
   cases e9
   omega
 ·exact World.cell?_setCell_other _ p ⟨b,o,none⟩ _ (by intro e9;subst e9;have:=hk.1;simp only at hp;omega)
structure PJ (n:Int) (gR gc:Nat) (w W wr:World) (acc:List Ro) (V:Value):Prop where
 e0:Ext w W
 e1:Ext W wr
 r0:W.cell? ⟨gR,0,none⟩=some (.int .i64 0)
 r1:W.cell? ⟨gR,1,none⟩=some (.slice none 0 0)
 c0:W.cell? ⟨gc,0,none⟩=some (.int .i64 n)
 c1:W.cell? ⟨gc,1,none⟩=some V
 z0:∀o,W.frozen? ⟨gR,o,none⟩=false
 z2:∀o,W.frozen? ⟨gc,o,none⟩=false
 lt:w.heap.size≤gR∧gR<gc∧gc<W.heap.size
 own:OwnQ wr W.heap.size 75 V acc.length acc
theorem PJ.ext {n:Int} {gR gc:Nat} {w W wr wx:World} {acc:List Ro} {V:Value} (h:PJ n gR gc w W wr acc V) (hb:Ext wr wx):PJ n gR gc w W wx acc V :=
 { h with e1:=h.e1.trans hb,own:=h.own.ext hb }
theorem PJ.facts {n:Int} {gR gc:Nat} {w W wr:World} {acc:List Ro} {V:Value} (h:PJ n gR gc w W wr acc V) :
  wr.cell? ⟨gR,0,none⟩=some (.int .i64 0)∧wr.cell? ⟨gR,1,none⟩=some (.slice none 0 0)∧wr.cell? ⟨gc,0,none⟩=some (.int .i64 n)∧wr.cell? ⟨gc,1,none⟩=some V ∧
   (∀o,wr.frozen? ⟨gR,o,none⟩=false)∧(∀o,wr.frozen? ⟨gc,o,none⟩=false)∧gR<wr.heap.size∧gc<wr.heap.size:=by
 obtain ⟨hc,hf,hz⟩:=h.e1.facts
 obtain ⟨l0,l1,l2⟩:=h.lt
 exact ⟨(hc _ _ (by omega)).trans h.r0,(hc _ _ (by omega)).trans h.r1,(hc _ _ (by omega)).trans h.c0,(hc _ _ (by omega)).trans h.c1,
  fun o=>(hf _ o (by omega)).trans (h.z0 o),fun o=>(hf _ o (by omega)).trans (h.z2 o),hz _ (by omega),hz _ (by omega)⟩
theorem PJ.rows_ {n:Int} {gR gc:Nat} {w W wr wx:World} {acc acc2:List Ro} {V V2:Value} (h:PJ n gR gc w W wr acc V) (hb:Ext W wx) (ho:OwnQ wx W.heap.size 75 V2 acc2.length acc2) :
  PJ n gR gc w (W.setCell ⟨gc,1,none⟩ V2) (wx.setCell ⟨gc,1,none⟩ V2) acc2 V2:=by
 obtain ⟨l0,l1,l2⟩:=h.lt
 refine ⟨Below.setCell h.e0 (by simp only;omega) _,hb.setq (by simp only;omega) _,?_,?_,?_,World.cell?_setCell_same _ _ _ h.c1,fun o=>(World.frozen?_setCell _ _ _ _).trans (h.z0 o),fun o=>(World.frozen?_setCell _ _ _ _).trans (h.z2 o),⟨l0,l1,by simpa using l2⟩,?_⟩
 ·rw [World.cell?_setCell_other _ _ _ _ (by intro e;cases e)];exact h.r0
 ·rw [World.cell?_setCell_other _ _ _ _ (by intro e;cases e;omega)];exact h.r1
 ·rw [World.cell?_setCell_other _ _ _ _ (by intro e;cases e)];exact h.c0
 ·have h9:=ho.set (p:=⟨gc,1,none⟩) (by simp only;omega) V2
  simpa using h9
theorem PJ.start {n:Int} {w:World} {tc:TypeId} :
  PJ n w.heap.size (w.heap.size+1) w ((w.alloc (.cells #[.int .i64 0,.slice none 0 0] tc)).alloc (.cells #[.int .i64 n,.slice none 0 0] tc)) ((w.alloc (.cells #[.int .i64 0,.slice none 0 0] tc)).alloc (.cells #[.int .i64 n,.slice none 0 0] tc)) [] (.slice none 0 0):=by
 refine ⟨((Ext.refl w).alloc _).alloc _,Ext.refl _,?_,?_,by simp [go_sem],by simp [go_sem],fun o=>?_,fun o=>by simp [go_sem],⟨Nat.le_refl _,by omega,by simp⟩,OwnQ.nil _ _ _⟩
 ·rw [Below.cell (p:=⟨w.heap.size,0,none⟩) ((Ext.refl (w.alloc (.cells #[.int .i64 0,.slice none 0 0] tc))).alloc _) (by simp)]
  simp [go_sem]
 ·rw [Below.cell (p:=⟨w.heap.size,1,none⟩) ((Ext.refl (w.alloc (.cells #[.int .i64 0,.slice none 0 0] tc))).alloc _) (by simp)]
  simp [go_sem]
 ·rw [((Ext.refl (w.alloc (.cells #[.int .i64 0,.slice none 0 0] tc))).alloc _).facts.2.1 _ _ (by simp)]
  simp [go_sem]
theorem PJ.glt {n:Int} {gR gc:Nat} {w W wr:World} {acc:List Ro} {V:Value} (h:PJ n gR gc w W wr acc V):gR<W.heap.size:=by
 have:=h.lt
 omega
theorem PJ.gle {n:Int} {gR gc:Nat} {w W wr:World} {acc:List Ro} {V:Value} (h:PJ n gR gc w W wr acc V):w.heap.size≤W.heap.size:=by
 have:=h.lt
 omega
theorem PJ.box {n:Int} {gR gc:Nat} {w W wr wx:World} {acc:List Ro} {V:Value} (h:PJ n gR gc w W wr acc V) (hb:Ext W wx) :
  wx.cell? ⟨gR,0,none⟩=some (.int .i64 0)∧wx.cell? ⟨gR,1,none⟩=some (.slice none 0 0)∧wx.cell? ⟨gc,0,none⟩=some (.int .i64 n)∧wx.cell? ⟨gc,1,none⟩=some V ∧
   (∀o,wx.frozen? ⟨gR,o,none⟩=false)∧(∀o,wx.frozen? ⟨gc,o,none⟩=false)∧gR<wx.heap.size∧gc<wx.heap.size:=by
 obtain ⟨hc,hf,hz⟩:=hb.facts
 obtain ⟨l0,l1,l2⟩:=h.lt
 exact ⟨(hc _ _ (by omega)).trans h.r0,(hc _ _ (by omega)).trans h.r1,(hc _ _ (by omega)).trans h.c0,(hc _ _ (by omega)).trans h.c1,
  fun o=>(hf _ o (by omega)).trans (h.z0 o),fun o=>(hf _ o (by omega)).trans (h.z2 o),hz _ (by omega),hz _ (by omega)⟩
def RdR (start:Int) (s:List UInt8) (w:World) (e:Ending) (w':World):Prop:=∃(A:Option Addr) (n c:Nat),e = .returned (.tuple #[.agg #[.int .i64 (rwS atoiO start s),.slice A n c],.int .i64 (rwE atoiO start s)])∧Ext w w'∧Rws w' (fun b=>w.heap.size≤b) A n (rwL atoiO start s)
theorem RdR.no {start:Int} {s:List UInt8} {w w':World} (h:rdP atoiO start s=none) (hb:Ext w w'):RdR start s w (.returned (.tuple #[.agg #[.int .i64 0,.slice none 0 0],.int .i64 12])) w':=by
 obtain ⟨h1,h2,h3⟩:=znp h
 exact ⟨none,0,0,by rw [h1,h3],hb,by rw [h2];exact Rws.none_ _ _ _⟩
theorem RdR.yes {start:Int} {s:List UInt8} {l:List Ro} {A:Option Addr} {n c:Nat} {w w':World} (h:rdP atoiO start s=some l) (hb:Ext w w') (hr:Rws w' (fun b=>w.heap.size≤b) A n l):RdR start s w (.returned (.tuple #[.agg #[.int .i64 start,.slice A n c],.int .i64 0])) w':=by
 obtain ⟨h1,h2,h3⟩:=zmR h
 exact ⟨A,n,c,by rw [h1,h3],hb,by rw [h2];exact hr⟩
theorem zhv (start:Int) (l:List UInt8) (hl:60000<l.length) (h:(l.length:Int)≤1000000000) (w:World):Calls Tryz.prog 12 #[.int .i64 start,.string ⟨l.toArray⟩] w (RdR start l w):=by
 have h1:=Lib.hid (zll (at_:=atoiO) (start:=start) hl)
 have h2:(60000:Int)<(l.length:Int):=by omega
 clear hl
 go_enter Tryz.func12,Tryz.ntmps12
 go_wp2_with fail
 exact bodyPost_ret (v := .tuple #[.agg #[.int .i64 0,.slice none 0 0],.int .i64 12]) (by simp [results,Tryz.f12,go_sem]) rfl (RdR.no h1.out (by repeat (first|exact zr _|assumption|refine za ?_ _|refine zd ?_|refine zn ?_ _|refine zt ?_ (by assumption))))
def strOf:Value→Nat
 | .string b=>b.size
 | _=>0
theorem zgE (l:List UInt8):strOf (.string ⟨l.toArray⟩)=l.length:=zaM l
set_option maxHeartbeats 8000000 in
theorem zhJ (start:Int) (l:List UInt8) (hl:¬60000<l.length) (w:World) (hg:Glob w):Calls Tryz.prog 12 #[.int .i64 start,.string ⟨l.toArray⟩] w (RdR start l w):=by
 have HG:=Lib.hid hg
 have hlen:¬(60000:Int)<(l.length:Int):=by omega
 have HBAD:=Lib.hid (fun h=>zmr (at_:=atoiO) (start:=start) (s:=l) h)
 have HEND:=Lib.hid (fun r h=>zlU (at_:=atoiO) (start:=start) (s:=l) (l:=r) hl h)
 have HL:=Lib.hid (show l.length≤60000 by omega)
 have HST0:=Lib.hid (RdSt.start atoiO l)
 have HPJ0:=Lib.hid (PJ.start (n:=start) (w:=w) (tc:=24))
 clear hg hl
 go_enter Tryz.func12,Tryz.ntmps12
 go_wp2_with fail
 go_loopw [7] (fun u wr=>∃(W:World) (rest:List UInt8) (acc:List Ro) (V:Value),u = .string ⟨rest.toArray⟩∧rest.length≤60000∧acc.length≤100∧Hid (PJ start w.heap.size (w.heap.size+1) w W wr acc V)∧Hid (RdSt atoiO l acc rest)) (fun u _=>strOf u)
 case atStart=>exact ⟨_,l,[],_,rfl,HL.out,by simp,HPJ0,HST0⟩
 case round =>
  clear HPJ0 HST0
  obtain ⟨W,rest,acc,V,rfl,hrl,hal,HP,HF⟩:=hrel
  obtain ⟨wa,rfl⟩:∃wa:World,wa=wr:=⟨_,rfl⟩
  obtain ⟨k0,k1,k3,k4,f0,f2,z0,z2⟩:=HP.out.facts
  obtain ⟨A9,c9,rfl,hrw⟩:=zbb HP.out.own (by omega)
  by_cases he:rest=[]
  ·subst he
   have hfin:=HF.out.fin
   have HEQ:=Lib.hid (HEND.out acc hfin)
   have HRW:=Lib.hid hrw
   have HTX:=Lib.hid (fun (w':World) (hb:Ext wa w')=>zeE start A9 acc.length c9 acc w' (hrw.any.ext hb) (HG.out.ext (HP.out.e0.trans (HP.out.e1.trans hb))))
   obtain ⟨T,hT⟩:∃T,rowsV start acc=T:=⟨_,rfl⟩
   obtain ⟨E,hE⟩:∃E,rowsE start acc=E:=⟨_,rfl⟩
   have HT:=Lib.hid hT
   have HE:=Lib.hid hE
   rw [hT,hE] at HEQ
   clear hrw hfin HEND HBAD HF hT hE
   by_cases hE0:E=0
   ·by_cases hT0:T=l
    ·have HCP:=Lib.hid (HEQ.out.trans (if_pos ⟨hE0,hT0⟩))
     subst hE0
     have hTe:(T==l)=true:=by simpa using hT0
     have hTe2:(T != l)=false:=by simpa using hT0
     clear HEQ hT0
     go_wp2_with (first | (go_at_call 10;((with_reducible refine (HTX.out _ (by repeat (first|exact zr _|assumption|refine za ?_ _|refine zd ?_|refine zn ?_ _|refine zt ?_ (by assumption)))).mono ?_);rintro e w7 ⟨rfl,hq7⟩;rw [HT.out,HE.out];have HP7:=Lib.hid (HP.out.ext (by repeat (first|exact zr _|assumption|refine za ?_ _|refine zd ?_|refine zn ?_ _|refine zt ?_ (by assumption)):Ext wa w7));have HQ7:=Lib.hid (by repeat (first|exact zr _|assumption|refine za ?_ _|refine zd ?_|refine zn ?_ _|refine zt ?_ (by assumption)):Ext wa w7);clear hq7;obtain ⟨j0,j1,j3,j4,j5,j7,j8,j10⟩:=HP7.out.facts)))
     obtain ⟨y0,y1⟩:=zaQ (v0 := .int .i64 start) (v1 := .slice A9 acc.length c9) j0 j1
     have HR9:=Lib.hid (zit (g:=w.heap.size) (v0 := .int .i64 start) (v1 := .slice A9 acc.length c9) (HRW.out.ext HQ7.out) HP.out.glt HP.out.gle)
     exact bodyPost_ret (v := .tuple #[.agg #[.int .i64 start,.slice A9 acc.length c9],.int .i64 0]) (by simp [results,Tryz.f12,go_sem,y0,y1]) rfl (RdR.yes HCP.out (Below.setCell (Below.setCell (HP7.out.e0.trans HP7.out.e1) (by simp) _) (by simp) _) HR9.out)
    ·have HCP:=Lib.hid (HEQ.out.trans (if_neg (fun h=>hT0 h.2)))
     subst hE0
     have hTe:(T==l)=false:=by simpa using hT0
     have hTe2:(T != l)=true:=by simpa using hT0
     clear HEQ hT0
     go_wp2_with (first | (go_at_call 10;((with_reducible refine (HTX.out _ (by repeat (first|exact zr _|assumption|refine za ?_ _|refine zd ?_|refine zn ?_ _|refine zt ?_ (by assumption)))).mono ?_);rintro e w7 ⟨rfl,hq7⟩;rw [HT.out,HE.out];have HP7:=Lib.hid (HP.out.ext (by repeat (first|exact zr _|assumption|refine za ?_ _|refine zd ?_|refine zn ?_ _|refine zt ?_ (by assumption)):Ext wa w7));have HQ7:=Lib.hid (by repeat (first|exact zr _|assumption|refine za ?_ _|refine zd ?_|refine zn ?_ _|refine zt ?_ (by assumption)):Ext wa w7);clear hq7;obtain ⟨j0,j1,j3,j4,j5,j7,j8,j10⟩:=HP7.out.facts)))
     obtain ⟨y0,y1⟩:=zaQ (v0 := .int .i64 0) (v1 := .slice none 0 0) j0 j1
     exact bodyPost_ret (v := .tuple #[.agg #[.int .i64 0,.slice none 0 0],.int .i64 12]) (by simp [results,Tryz.f12,go_sem,y0,y1]) rfl (RdR.no HCP.out (Below.setCell (Below.setCell (HP7.out.e0.trans HP7.out.e1) (by simp) _) (by simp) _))
   ·have HCP:=Lib.hid (HEQ.out.trans (if_neg (fun h=>hE0 h.1)))
    have hEe:(E != 0)=true:=by simpa using hE0
    clear HEQ hE0
    go_wp2_with (first | (go_at_call 10;((with_reducible refine (HTX.out _ (by repeat (first|exact zr _|assumption|refine za ?_ _|refine zd ?_|refine zn ?_ _|refine zt ?_ (by assumption)))).mono ?_);rintro e w7 ⟨rfl,hq7⟩;rw [HT.out,HE.out];have HP7:=Lib.hid (HP.out.ext (by repeat (first|exact zr _|assumption|refine za ?_ _|refine zd ?_|refine zn ?_ _|refine zt ?_ (by assumption)):Ext wa w7));have HQ7:=Lib.hid (by repeat (first|exact zr _|assumption|refine za ?_ _|refine zd ?_|refine zn ?_ _|refine zt ?_ (by assumption)):Ext wa w7);clear hq7;obtain ⟨j0,j1,j3,j4,j5,j7,j8,j10⟩:=HP7.out.facts)))
    obtain ⟨y0,y1⟩:=zaQ (v0 := .int .i64 0) (v1 := .slice none 0 0) j0 j1
    exact bodyPost_ret (v := .tuple #[.agg #[.int .i64 0,.slice none 0 0],.int .i64 12]) (by simp [results,Tryz.f12,go_sem,y0,y1]) rfl (RdR.no HCP.out (Below.setCell (Below.setCell (HP7.out.e0.trans HP7.out.e1) (by simp) _) (by simp) _))
  ·have hee:(rest==[])=false:=by simpa using he
   have hee2:(rest != [])=true:=by simpa using he
   have hcl:=(zdP 10 rest).1
   have hcl2:=zlp 10 rest he
   have HCU:=Lib.hid (fun (w':World) (h:Ext wa w')=>zd2 10 rest (by omega) w' (HG.out.ext (HP.out.e0.trans (HP.out.e1.trans h))))
   have hno:=fun h=>HBAD.out (HF.out.none he h)
   have hye:=fun x h=>HF.out.next (l:=x) he h
   have HMS:=Lib.hid (zgE rest)
   obtain ⟨one,hone⟩:∃x,(cutA 10 rest).1=x:=⟨_,rfl⟩
   obtain ⟨more,hmore⟩:∃x,(cutA 10 rest).2=x:=⟨_,rfl⟩
   rw [hone,hmore] at HCU
   rw [hone] at hno hcl
   rw [hone,hmore] at hye
   rw [hmore] at hcl2
   have HAD:=Lib.hid (fun (w':World) (h:Ext wa w')=>zlh W w' A9 acc.length c9 acc one (HP.out.e1.trans h) (HP.out.own.ext h) hal (by omega) (HG.out.ext (HP.out.e0.trans (HP.out.e1.trans h))))
   clear hone hmore he hrw HEND HBAD HF
   cases hq:addP atoiO acc one with
   | none =>
    have HCP:=Lib.hid (hno hq)
    have HAD2:=Lib.hid (show ∀(w':World),Ext wa w'→Calls Tryz.prog 46 #[.slice A9 acc.length c9,.string ⟨one.toArray⟩] w' fun e w''=>(∃(A:Option Addr) (n c:Nat),e = .returned (.tuple #[.slice A n c,.bool false]))∧Ext W w'' from fun w' h=>by
     refine (HAD.out w' h).mono ?_
     rintro e w9 ⟨V,ok,rfl,hb,⟨_,rfl,A,n,c,rfl⟩ | ⟨x,h2,_⟩⟩
     ·exact ⟨⟨A,n,c,rfl⟩,hb⟩
     ·rw [hq] at h2;cases h2)
    clear hno hye hq HAD
    go_wp2_with (first
     | (go_at_call 45;((with_reducible refine (HCU.out _ (by repeat (first|exact zr _|assumption|refine za ?_ _|refine zd ?_|refine zn ?_ _|refine zt ?_ (by assumption)))).mono ?_);rintro e w1 ⟨b1,rfl,hq1⟩;obtain ⟨i0,i1,i3,i4,i5,i7,i8,i10⟩:=(HP.out.ext (by repeat (first|exact zr _|assumption|refine za ?_ _|refine zd ?_|refine zn ?_ _|refine zt ?_ (by assumption)):Ext wa w1)).facts))
     | (go_at_call 46;((with_reducible refine (HAD2.out _ (by repeat (first|exact zr _|assumption|refine za ?_ _|refine zd ?_|refine zn ?_ _|refine zt ?_ (by assumption)))).mono ?_);rintro e w2 ⟨⟨A2,n2,c2,rfl⟩,hq2⟩;have HQ2:=Lib.hid hq2;clear hq2;obtain ⟨j0,j1,j3,j4,j5,j7,j8,j10⟩:=HP.out.box HQ2.out)))
    obtain ⟨y0,y1⟩:=zaQ (v0 := .int .i64 0) (v1 := .slice none 0 0) j0 j1
    exact bodyPost_ret (v := .tuple #[.agg #[.int .i64 0,.slice none 0 0],.int .i64 12]) (by simp [results,Tryz.f12,go_sem,y0,y1]) rfl (RdR.no HCP.out (Below.setCell (Below.setCell (HP.out.e0.trans HQ2.out) (by simp) _) (by simp) _))
   | some x =>
    have HST:=Lib.hid (hye x hq)
    have hx100:=zkg hq
    have HAD2:=Lib.hid (show ∀(w':World),Ext wa w'→Calls Tryz.prog 46 #[.slice A9 acc.length c9,.string ⟨one.toArray⟩] w' fun e w''=>∃(A:Option Addr) (c:Nat),e = .returned (.tuple #[.slice A x.length c,.bool true])∧Ext W w''∧OwnQ w'' W.heap.size 75 (.slice A x.length c) x.length x from fun w' h=>by
     refine (HAD.out w' h).mono ?_
     rintro e w9 ⟨V,ok,rfl,hb,⟨h2,_⟩ | ⟨x2,h2,rfl,ho⟩⟩
     ·rw [hq] at h2;cases h2
     ·rw [hq] at h2
      cases h2
      obtain ⟨A,c,rfl, -⟩:=zbb ho (by omega)
      exact ⟨A,c,rfl,hb,ho⟩)
    clear hno hye hq HAD
    go_wp2_with (first
     | (go_at_call 45;((with_reducible refine (HCU.out _ (by repeat (first|exact zr _|assumption|refine za ?_ _|refine zd ?_|refine zn ?_ _|refine zt ?_ (by assumption)))).mono ?_);rintro e w1 ⟨b1,rfl,hq1⟩;obtain ⟨i0,i1,i3,i4,i5,i7,i8,i10⟩:=(HP.out.ext (by repeat (first|exact zr _|assumption|refine za ?_ _|refine zd ?_|refine zn ?_ _|refine zt ?_ (by assumption)):Ext wa w1)).facts))
     | (go_at_call 46;((with_reducible refine (HAD2.out _ (by repeat (first|exact zr _|assumption|refine za ?_ _|refine zd ?_|refine zn ?_ _|refine zt ?_ (by assumption)))).mono ?_);rintro e w2 ⟨A2,c2,rfl,hq2,ho2⟩;have HP2:=Lib.hid (HP.out.rows_ hq2 ho2);have HQ2:=Lib.hid hq2;clear hq2 ho2;obtain ⟨j0,j1,j3,j4,j5,j7,j8,j10⟩:=HP.out.box HQ2.out)))
    go_roundw
    case rel=>exact ⟨_,more,x,_,rfl,by omega,by omega,HP2,HST⟩
    case measure=>rw [HMS.out,zgE];omega
theorem zjK (start:Int) (l:List UInt8) (hl:l.length≤1000000000) (w:World) (hg:Glob w):Calls Tryz.prog 12 #[.int .i64 start,.string ⟨l.toArray⟩] w (RdR start l w):=by
 by_cases h:60000<l.length
 ·exact zhv start l h (by omega) w
 ·exact zhJ start l h w hg
end Go.Proofs.YtkneghkbgingdaaGreatDoor
