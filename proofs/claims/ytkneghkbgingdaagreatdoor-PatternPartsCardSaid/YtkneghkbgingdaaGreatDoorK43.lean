/- The reference's lines of rows. -/
import Derived.Test.YtkneghkbgingdaaGreatDoorK42
namespace Go.Proofs.YtkneghkbgingdaaGreatDoor
set_option maxRecDepth 100000
open Go.RowKit Go.ChangeShapes Go.WideShapes Go.Joins
section
variable {at_:List UInt8→Option Int} {s:List UInt8} {r:List (List UInt8)} {acc:List Ro}
end
theorem zbL (c:UInt8) (s:List UInt8):0<(spl c s).length:=by
 rw [zdn c s.length s (Zf _)]
 omega
theorem Vec.word {w:World} {A:Option Addr} {n:Nat} {l:List (List UInt8)} (h:Vec shStr w A n l) {k:Nat} (hk:k<n):∃(b off:Nat),A=some ⟨b,off,none⟩∧b<w.heap.size∧w.cell? ⟨b,off+k,none⟩=some (.string ⟨(l.getD k []).toArray⟩):=by
 obtain ⟨b,off,e,hlt,hc⟩:=h.2 (by omega)
 have hx:l[k]?=some (l.getD k []):=by
  rw [Zc,Zg (by rw [h.1];exact hk)];rfl
 have h1:=hc k _ hx 0 _ rfl
 refine ⟨b,off,e,hlt,?_⟩
 have e2:k*shStr.size+0=k:=by show k*1+0=k;omega
 rw [e2] at h1
 exact h1
end Go.Proofs.YtkneghkbgingdaaGreatDoor
