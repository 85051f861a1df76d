/- The reference's lines of rows. -/
import Derived.Test.YtkneghkbgingdaaGreatDoorL42
import Derived.Test.YtkneghkbgingdaaGreatDoorL38
import Derived.Test.YtkneghkbgingdaaGreatDoorL18
namespace Go.Proofs.YtkneghkbgingdaaGreatDoor
set_option maxRecDepth 100000
open Go.RowKit Go.ChangeShapes Go.WideShapes Go.Joins
section
variable {at_:List UInt8→Option Int} {s:List UInt8} {r:List (List UInt8)} {acc:List Ro}
end
theorem za6 (c:UInt8) (s:List UInt8):0<(spl c s).length:=by
 rw [zcT c s.length s (Nat.le_refl _)]
 omega
theorem Vec.word {w:World} {A:Option Addr} {n:Nat} {l:List (List UInt8)} (h:Vec shStr w A n l) {k:Nat} (hk:k<n):∃(b off:Nat),A=some ⟨b,off,none⟩∧b<w.heap.size∧w.cell? ⟨b,off+k,none⟩=some (.string ⟨(l.getD k []).toArray⟩):=by
 obtain ⟨b,off,e,hlt,hc⟩:=h.2 (by omega)
 have hx:l[k]?=some (l.getD k []):=by
  rw [List.getD_eq_getElem?_getD,List.getElem?_eq_getElem (by rw [h.1];exact hk)];rfl
 have h1:=hc k _ hx 0 _ rfl
 refine ⟨b,off,e,hlt,?_⟩
 have e2:k*shStr.size+0=k:=by show k*1+0=k;omega
 rw [e2] at h1
 exact h1
end Go.Proofs.YtkneghkbgingdaaGreatDoor
