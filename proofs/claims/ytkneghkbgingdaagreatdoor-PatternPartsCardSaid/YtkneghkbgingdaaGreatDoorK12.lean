/- Text of stitches. -/
import Derived.Test.YtkneghkbgingdaaGreatDoorK11
namespace Go.Proofs.YtkneghkbgingdaaGreatDoor
set_option maxHeartbeats 16000000
set_option maxRecDepth 100000
open Go.RowKit
def textG (l:List St):List UInt8:=if allE l=0 then textL l else []
theorem zjJ (n c:Nat) (A:Option Addr) (l:List St) (w:World) (hl:Vec shSt w A n l) (hn:n≤maxLen) (hby:Bytes l) (hg:Glob w) :
  Calls Tryz.prog 136 #[.slice A n c] w fun e w'=>e = .returned (.tuple #[.string ⟨(textG l).toArray⟩,.int .i64 (allE l)])∧Ext w w':=by
 have HX:=Za hl
 have HG:=Za hg
 have HS:=Za (zcp n c A l w hl hn hby)
 by_cases h0:allE l=0
 ·obtain ⟨h1,h2, -, -⟩:=za6 h0
  have hs:=zcE h0
  have HA:=Za h0
  have h3:n≤200:=by rw [←hl.1];exact h1
  have HT:=Za (fun (w':World) (hb:Ext w w')=>zer n c A l w' (hl.ext hb) h3 h2 (hg.ext hb))
  have HTG:=Za (show textG l=textL l by rw [textG,if_pos h0])
  rw [textG,if_pos h0]
  clear hl hg hby h0 h1 h2
  generalize textL l=T at *
  have hs2:¬((3000:Int)<(T.length:Int)):=by omega
  go_enter Tryz.func136,Tryz.ntmps136
  go_wp2_with (first
   | (go_at_call 126;((with_reducible refine HS.out.mono ?_);rintro e w1 ⟨rfl,hq1⟩;rw [HA.out]))
   | (go_at_call 164;((with_reducible refine (HT.out _ zx).mono ?_);rintro e w2 ⟨rfl,hq2⟩)))
  go_ret2
  exact ⟨by rw [HA.out];rfl,zx⟩
 ·rw [textG,if_neg h0]
  obtain ⟨x,hx⟩:∃x,allE l=x:=⟨_,rfl⟩
  rw [hx] at h0
  have HA:=Za hx
  have hb:(x != 0)=true:=by simpa using h0
  clear hl hg hby h0 hx
  go_enter Tryz.func136,Tryz.ntmps136
  go_wp2_with (first
   | (go_at_call 126;((with_reducible refine HS.out.mono ?_);rintro e w1 ⟨rfl,hq1⟩;rw [HA.out])))
  go_ret2
  exact ⟨by rw [HA.out];rfl,zx⟩
end Go.Proofs.YtkneghkbgingdaaGreatDoor
