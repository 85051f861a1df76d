/- console.do: the words of a text and of the cloth. -/
import Derived.Test.YtbjgpbojjhldaaaGreatDoorY28
set_option maxHeartbeats 16000000
namespace Go.Proofs.YtbjgpbojjhldaaaGreatDoor
set_option maxRecDepth 100000
open Go.RowKit
theorem zbA {at_:List UInt8->Option Int} {st:Cs} {line a t:List UInt8} {f:Bool} (h:cutF 32 line=(a,t,f)):doV at_ st line =
  if a∈[kWords,kCells,kShortest,kExpand] then (st,if f=false then ([],12) else wrtV at_ a t)
  else if a∈[kCloth,kHangs,kFactor,kFloats,kRepeat] then (st,if f=true then ([],12) else lookV st.c a)
  else match (if f=true then numsC at_ (spl 32 t) else some []) with
   | none=>(st,([],12))
   | some l=>nmbV st a l:=by
 rw [doV,h]
 simp only
 cases (if f=true then numsC at_ (spl 32 t) else some []) <;> rfl
theorem zZ3 {p:Prop} (h:p:=by
 rw [hr] at hv hw
 obtain ⟨r1,r2⟩:=r
 have HW:=Za hw
 clear hcut hs hG hw hr hl
 cases f
 ·have HV:=Za (hv.trans (by rw [if_pos rfl]))
  clear hv
  go_enter Tryz.func35,Tryz.ntmps35
  go_wp2_with (first
   | (go_at_call 34;((with_reducible refine (HC.out _ (HGL.out.ext zx)).mono ?_);rintro e5 w5 ⟨rfl,hq5⟩;have HX5:=Za (show Ext w w5 from zx);clear hq5)))
  go_ret2
  rw [HV.out]
  exact zac HS.out (HX5.out.trans zx) rfl
 ·have HV:=Za (hv.trans (by rw [if_neg (by decide)]))
  clear hv
  go_enter Tryz.func35,Tryz.ntmps35
  go_wp2_with (first
   | (go_at_call 34;((with_reducible refine (HC.out _ (HGL.out.ext zx)).mono ?_);rintro e5 w5 ⟨rfl,hq5⟩;have HX5:=Za (show Ext w w5 from zx);clear hq5))
   | (go_at_call 64;((with_reducible refine (HW.out _ (HGL.out.ext (HX5.out.trans zx))).mono ?_);rintro e6 w6 ⟨rfl,hq6⟩;have HX6:=Za (HX5.out.trans (show Ext w5 w6 from zx));clear hq6)))
  go_ret2
  rw [HV.out]
  exact zac HS.out (HX6.out.trans zx) rfl):p:=h
theorem zie (S:Nat) (st:Cs) (line t:List UInt8) (f:Bool) (hcut:cutF 32 line=(kWords,t,f)) (hl:line.length<=1000000) (w:World) (hG:Glob w) (hs:StAt w S st)
  (hw:∀w',Glob w'->Calls Tryz.prog 64 #[.string ⟨kWords.toArray⟩,.string ⟨t.toArray⟩] w' (AnsR w' (wrtV atoiO kWords t))) :
  Calls Tryz.prog 35 #[.pointer (some ⟨S,0,none⟩),.string ⟨line.toArray⟩] w (CmdR w S (doV atoiO st line)):=by
 have HS:=Za hs
 have HGL:=Za hG
 have hv:doV atoiO st line=(st,if f=false then ([],12) else wrtV atoiO kWords t):=(zbA hcut).trans (if_pos (by decide))
 have HC:=Za (show ∀w',Glob w'->Calls Tryz.prog 34 #[.string ⟨line.toArray⟩,.string ⟨#[32]⟩] w' fun e w''=>e = .returned (.tuple #[.string ⟨kWords.toArray⟩,.string ⟨t.toArray⟩,.bool f])/\Ext w' w'' from fun w' h=>by have h9:=zah 32 line hl w' h;rw [hcut] at h9;exact h9)
 obtain ⟨r,hr⟩:∃r,wrtV atoiO kWords t=r:=⟨_,rfl⟩
 exact zZ3
theorem zia (S:Nat) (st:Cs) (line t:List UInt8) (f:Bool) (hcut:cutF 32 line=(kCells,t,f)) (hl:line.length<=1000000) (w:World) (hG:Glob w) (hs:StAt w S st)
  (hw:∀w',Glob w'->Calls Tryz.prog 64 #[.string ⟨kCells.toArray⟩,.string ⟨t.toArray⟩] w' (AnsR w' (wrtV atoiO kCells t))) :
  Calls Tryz.prog 35 #[.pointer (some ⟨S,0,none⟩),.string ⟨line.toArray⟩] w (CmdR w S (doV atoiO st line)):=by
 have HS:=Za hs
 have HGL:=Za hG
 have hv:doV atoiO st line=(st,if f=false then ([],12) else wrtV atoiO kCells t):=(zbA hcut).trans (if_pos (by decide))
 have HC:=Za (show ∀w',Glob w'->Calls Tryz.prog 34 #[.string ⟨line.toArray⟩,.string ⟨#[32]⟩] w' fun e w''=>e = .returned (.tuple #[.string ⟨kCells.toArray⟩,.string ⟨t.toArray⟩,.bool f])/\Ext w' w'' from fun w' h=>by have h9:=zah 32 line hl w' h;rw [hcut] at h9;exact h9)
 obtain ⟨r,hr⟩:∃r,wrtV atoiO kCells t=r:=⟨_,rfl⟩
 exact zZ3
theorem zid (S:Nat) (st:Cs) (line t:List UInt8) (f:Bool) (hcut:cutF 32 line=(kShortest,t,f)) (hl:line.length<=1000000) (w:World) (hG:Glob w) (hs:StAt w S st)
  (hw:∀w',Glob w'->Calls Tryz.prog 64 #[.string ⟨kShortest.toArray⟩,.string ⟨t.toArray⟩] w' (AnsR w' (wrtV atoiO kShortest t))) :
  Calls Tryz.prog 35 #[.pointer (some ⟨S,0,none⟩),.string ⟨line.toArray⟩] w (CmdR w S (doV atoiO st line)):=by
 have HS:=Za hs
 have HGL:=Za hG
 have hv:doV atoiO st line=(st,if f=false then ([],12) else wrtV atoiO kShortest t):=(zbA hcut).trans (if_pos (by decide))
 have HC:=Za (show ∀w',Glob w'->Calls Tryz.prog 34 #[.string ⟨line.toArray⟩,.string ⟨#[32]⟩] w' fun e w''=>e = .returned (.tuple #[.string ⟨kShortest.toArray⟩,.string ⟨t.toArray⟩,.bool f])/\Ext w' w'' from fun w' h=>by have h9:=zah 32 line hl w' h;rw [hcut] at h9;exact h9)
 obtain ⟨r,hr⟩:∃r,wrtV atoiO kShortest t=r:=⟨_,rfl⟩
 exact zZ3
theorem zl4 (S:Nat) (st:Cs) (line t:List UInt8) (f:Bool) (hcut:cutF 32 line=(kExpand,t,f)) (hl:line.length<=1000000) (w:World) (hG:Glob w) (hs:StAt w S st)
  (hw:∀w',Glob w'->Calls Tryz.prog 64 #[.string ⟨kExpand.toArray⟩,.string ⟨t.toArray⟩] w' (AnsR w' (wrtV atoiO kExpand t))) :
  Calls Tryz.prog 35 #[.pointer (some ⟨S,0,none⟩),.string ⟨line.toArray⟩] w (CmdR w S (doV atoiO st line)):=by
 have HS:=Za hs
 have HGL:=Za hG
 have hv:doV atoiO st line=(st,if f=false then ([],12) else wrtV atoiO kExpand t):=(zbA hcut).trans (if_pos (by decide))
 have HC:=Za (show ∀w',Glob w'->Calls Tryz.prog 34 #[.string ⟨line.toArray⟩,.string ⟨#[32]⟩] w' fun e w''=>e = .returned (.tuple #[.string ⟨kExpand.toArray⟩,.string ⟨t.toArray⟩,.bool f])/\Ext w' w'' from fun w' h=>by have h9:=zah 32 line hl w' h;rw [hcut] at h9;exact h9)
 obtain ⟨r,hr⟩:∃r,wrtV atoiO kExpand t=r:=⟨_,rfl⟩
 exact zZ3
theorem zZ1 {p:Prop} (h:p:=by
 rw [hr] at hv hw
 obtain ⟨r1,r2⟩:=r
 have HW:=Za hw
 have hlt:=hs.lt
 clear hcut hs hG hw hr hl
 cases f
 ·have HV:=Za (hv.trans (by rw [if_neg (by decide)]))
  clear hv
  go_enter Tryz.func35,Tryz.ntmps35
  go_wp2_with (first
   | (go_at_call 34;((with_reducible refine (HC.out _ (HGL.out.ext zx)).mono ?_);rintro e5 w5 ⟨rfl,hq5⟩;have HX5:=Za (show Ext w w5 from zx);clear hq5))
   | (go_at_call 65;((with_reducible refine (HW.out _ (HGL.out.ext (HX5.out.trans zx)) (HS.out.ext (HX5.out.trans zx))).mono ?_);rintro e6 w6 ⟨rfl,hq6⟩;have HX6:=Za (HX5.out.trans (show Ext w5 w6 from zx));clear hq6)))
  go_ret2
  rw [HV.out]
  exact zac HS.out (HX6.out.trans zx) rfl
 ·have HV:=Za (hv.trans (by rw [if_pos rfl]))
  clear hv
  go_enter Tryz.func35,Tryz.ntmps35
  go_wp2_with (first
   | (go_at_call 34;((with_reducible refine (HC.out _ (HGL.out.ext zx)).mono ?_);rintro e5 w5 ⟨rfl,hq5⟩;have HX5:=Za (show Ext w w5 from zx);clear hq5)))
  go_ret2
  rw [HV.out]
  exact zac HS.out (HX5.out.trans zx) rfl):p:=h
theorem zib (S:Nat) (st:Cs) (line t:List UInt8) (f:Bool) (hcut:cutF 32 line=(kCloth,t,f)) (hl:line.length<=1000000) (w:World) (hG:Glob w) (hs:StAt w S st)
  (hw:∀w',Glob w'->StAt w' S st->Calls Tryz.prog 65 #[.pointer (some ⟨S,0,none⟩),.string ⟨kCloth.toArray⟩] w' (AnsR w' (lookV st.c kCloth))) :
  Calls Tryz.prog 35 #[.pointer (some ⟨S,0,none⟩),.string ⟨line.toArray⟩] w (CmdR w S (doV atoiO st line)):=by
 have HS:=Za hs
 have HGL:=Za hG
 have hv:doV atoiO st line=(st,if f=true then ([],12) else lookV st.c kCloth):=(zbA hcut).trans ((if_neg (by decide)).trans (if_pos (by decide)))
 have HC:=Za (show ∀w',Glob w'->Calls Tryz.prog 34 #[.string ⟨line.toArray⟩,.string ⟨#[32]⟩] w' fun e w''=>e = .returned (.tuple #[.string ⟨kCloth.toArray⟩,.string ⟨t.toArray⟩,.bool f])/\Ext w' w'' from fun w' h=>by have h9:=zah 32 line hl w' h;rw [hcut] at h9;exact h9)
 obtain ⟨r,hr⟩:∃r,lookV st.c kCloth=r:=⟨_,rfl⟩
 exact zZ1
theorem zic (S:Nat) (st:Cs) (line t:List UInt8) (f:Bool) (hcut:cutF 32 line=(kHangs,t,f)) (hl:line.length<=1000000) (w:World) (hG:Glob w) (hs:StAt w S st)
  (hw:∀w',Glob w'->StAt w' S st->Calls Tryz.prog 65 #[.pointer (some ⟨S,0,none⟩),.string ⟨kHangs.toArray⟩] w' (AnsR w' (lookV st.c kHangs))) :
  Calls Tryz.prog 35 #[.pointer (some ⟨S,0,none⟩),.string ⟨line.toArray⟩] w (CmdR w S (doV atoiO st line)):=by
 have HS:=Za hs
 have HGL:=Za hG
 have hv:doV atoiO st line=(st,if f=true then ([],12) else lookV st.c kHangs):=(zbA hcut).trans ((if_neg (by decide)).trans (if_pos (by decide)))
 have HC:=Za (show ∀w',Glob w'->Calls Tryz.prog 34 #[.string ⟨line.toArray⟩,.string ⟨#[32]⟩] w' fun e w''=>e = .returned (.tuple #[.string ⟨kHangs.toArray⟩,.string ⟨t.toArray⟩,.bool f])/\Ext w' w'' from fun w' h=>by have h9:=zah 32 line hl w' h;rw [hcut] at h9;exact h9)
 obtain ⟨r,hr⟩:∃r,lookV st.c kHangs=r:=⟨_,rfl⟩
 exact zZ1
theorem zf9 (S:Nat) (st:Cs) (line t:List UInt8) (f:Bool) (hcut:cutF 32 line=(kFactor,t,f)) (hl:line.length<=1000000) (w:World) (hG:Glob w) (hs:StAt w S st)
  (hw:∀w',Glob w'->StAt w' S st->Calls Tryz.prog 65 #[.pointer (some ⟨S,0,none⟩),.string ⟨kFactor.toArray⟩] w' (AnsR w' (lookV st.c kFactor))) :
  Calls Tryz.prog 35 #[.pointer (some ⟨S,0,none⟩),.string ⟨line.toArray⟩] w (CmdR w S (doV atoiO st line)):=by
 have HS:=Za hs
 have HGL:=Za hG
 have hv:doV atoiO st line=(st,if f=true then ([],12) else lookV st.c kFactor):=(zbA hcut).trans ((if_neg (by decide)).trans (if_pos (by decide)))
 have HC:=Za (show ∀w',Glob w'->Calls Tryz.prog 34 #[.string ⟨line.toArray⟩,.string ⟨#[32]⟩] w' fun e w''=>e = .returned (.tuple #[.string ⟨kFactor.toArray⟩,.string ⟨t.toArray⟩,.bool f])/\Ext w' w'' from fun w' h=>by have h9:=zah 32 line hl w' h;rw [hcut] at h9;exact h9)
 obtain ⟨r,hr⟩:∃r,lookV st.c kFactor=r:=⟨_,rfl⟩
 exact zZ1
theorem zga (S:Nat) (st:Cs) (line t:List UInt8) (f:Bool) (hcut:cutF 32 line=(kFloats,t,f)) (hl:line.length<=1000000) (w:World) (hG:Glob w) (hs:StAt w S st)
  (hw:∀w',Glob w'->StAt w' S st->Calls Tryz.prog 65 #[.pointer (some ⟨S,0,none⟩),.string ⟨kFloats.toArray⟩] w' (AnsR w' (lookV st.c kFloats))) :
  Calls Tryz.prog 35 #[.pointer (some ⟨S,0,none⟩),.string ⟨line.toArray⟩] w (CmdR w S (doV atoiO st line)):=by
 have HS:=Za hs
 have HGL:=Za hG
 have hv:doV atoiO st line=(st,if f=true then ([],12) else lookV st.c kFloats):=(zbA hcut).trans ((if_neg (by decide)).trans (if_pos (by decide)))
 have HC:=Za (show ∀w',Glob w'->Calls Tryz.prog 34 #[.string ⟨line.toArray⟩,.string ⟨#[32]⟩] w' fun e w''=>e = .returned (.tuple #[.string ⟨kFloats.toArray⟩,.string ⟨t.toArray⟩,.bool f])/\Ext w' w'' from fun w' h=>by have h9:=zah 32 line hl w' h;rw [hcut] at h9;exact h9)
 obtain ⟨r,hr⟩:∃r,lookV st.c kFloats=r:=⟨_,rfl⟩
 exact zZ1
theorem zgb (S:Nat) (st:Cs) (line t:List UInt8) (f:Bool) (hcut:cutF 32 line=(kRepeat,t,f)) (hl:line.length<=1000000) (w:World) (hG:Glob w) (hs:StAt w S st)
  (hw:∀w',Glob w'->StAt w' S st->Calls Tryz.prog 65 #[.pointer (some ⟨S,0,none⟩),.string ⟨kRepeat.toArray⟩] w' (AnsR w' (lookV st.c kRepeat))) :
  Calls Tryz.prog 35 #[.pointer (some ⟨S,0,none⟩),.string ⟨line.toArray⟩] w (CmdR w S (doV atoiO st line)):=by
 have HS:=Za hs
 have HGL:=Za hG
 have hv:doV atoiO st line=(st,if f=true then ([],12) else lookV st.c kRepeat):=(zbA hcut).trans ((if_neg (by decide)).trans (if_pos (by decide)))
 have HC:=Za (show ∀w',Glob w'->Calls Tryz.prog 34 #[.string ⟨line.toArray⟩,.string ⟨#[32]⟩] w' fun e w''=>e = .returned (.tuple #[.string ⟨kRepeat.toArray⟩,.string ⟨t.toArray⟩,.bool f])/\Ext w' w'' from fun w' h=>by have h9:=zah 32 line hl w' h;rw [hcut] at h9;exact h9)
 obtain ⟨r,hr⟩:∃r,lookV st.c kRepeat=r:=⟨_,rfl⟩
 exact zZ1
end Go.Proofs.YtbjgpbojjhldaaaGreatDoor
/- satin.Twill. -/
namespace Go.Proofs.YtbjgpbojjhldaaaGreatDoor
set_option maxRecDepth 100000
open Go.RowKit Go.ChangeShapes Go.WideShapes Go.Joins
def GridX (x:Option Gd) (n:Int) (w:World) (e:Ending) (w':World):Prop:=match x with
 | none=>e = .returned (.tuple #[.agg #[.int .i64 0,.int .i64 0,.slice none 0 0],.int .i64 n])/\Ext w w'
 | some g=>GridR g w e w'
theorem zhr {x:Option Gd} {n:Int} {w w':World} (h:x=none) (hb:Ext w w'):GridX x n w (.returned (.tuple #[.agg #[.int .i64 0,.int .i64 0,.slice none 0 0],.int .i64 n])) w':=by
 subst h
 exact ⟨rfl,hb⟩
theorem zfk {x:Option Gd} {g:Gd} {n:Int} {w w':World} {e:Ending} (h:x=some g) (hg:GridR g w e w'):GridX x n w e w':=by
 subst h
 exact hg
structure TwS (w1 wr:World) (O W H:Nat) (A:Option Addr) (c:Nat) (l:List Bool):Prop where
 ex:Ext w1 wr
 o:Tb wr O (.int .i64 (W:Int)) (.int .i64 (H:Int)) (.slice A l.length c)
 ow:OwnV shBool wr w1.heap.size 4 (.slice A l.length c) l.length l
 no:(Value.slice A l.length c).ownBlock≠some O
 o0:w1.heap.size<=O
theorem TwS.put {w1 w7:World} {O W h n:Nat} {A:Option Addr} {c:Nat} {l:List Bool} {v:Value} (hex:Ext w1 w7) (ho:Tb w7 O (.int .i64 (W:Int)) (.int .i64 (h:Int)) v) (how:OwnV shBool w7 w1.heap.size 4 (.slice A n c) n l) (hno:(Value.slice A n c).ownBlock≠some O) (o0:w1.heap.size<=O) (v1:Value) (hv1:v1 = .int .i64 ((h+1:Nat):Int)) :
  TwS w1 ((w7.setCell ⟨O,2,none⟩ (.slice A n c)).setCell ⟨O,1,none⟩ v1) O W (h+1) A c l:=by
 subst hv1
 obtain rfl:=how.len
 have h1:But (some O) w7 (w7.setCell ⟨O,2,none⟩ (.slice A l.length c)):=(But.refl _ _).own rfl _
 have h2:But (some O) w7 ((w7.setCell ⟨O,2,none⟩ (.slice A l.length c)).setCell ⟨O,1,none⟩ (.int .i64 ((h+1:Nat):Int))):=h1.own rfl _
 exact ⟨(hex.set o0 _).set o0 _,(ho.set2 _).set1 _,World.ownsRow.kept how h2 (.inr hno),hno,o0⟩
theorem zkv {wx w6:World} {v v6:Value} {O:Nat} (h:v.ownBlock≠some O) (hO:O<wx.heap.size) (hg:wx.grownBy w6 v.ownBlock/\(v6.ownBlock=v.ownBlock∨v6.ownBlock=some wx.heap.size)):v6.ownBlock≠some O:=fun e=>by
 rcases hg.2 with h1 | h1
 ·exact h (h1.symm.trans e)
 ·rw [h1] at e
  simp only [Option.some.injEq] at e
  omega
theorem zqt {r:List Bool} {s h:Nat} {b:List Bool} (hh:h<r.length):twGo r s (r.length-h) (h*s % r.length) b h=if (h+1)*s % r.length=0 then ⟨r.length,h+1,b++turnR r (h*s % r.length)⟩ else twGo r s (r.length-(h+1)) ((h+1)*s % r.length) (b++turnR r (h*s % r.length)) (h+1):=by
 obtain ⟨f,hf⟩:∃f,r.length-h=f+1:=⟨r.length-h-1,by omega⟩
 rw [hf,twGo,zc1,show r.length-(h+1)=f by omega]
theorem zqv {n s h:Nat} (hh:h<n) (hc:¬(h+1)*s % n=0):h+1<n:=by
 rcases ZX (h+1) n with h1 | h1
 ·exact h1
 ·obtain rfl:h+1=n:=by omega
  exact absurd (Nat.mul_mod_right _ _) hc
theorem zlB (n c:Nat) (A:Option Addr) (l:List Int) (step:Int) (hn:n<=1000000) (w:World) (hl:Ints w A n l) :
  Calls Tryz.prog 28 #[.slice A n c,.int .i64 step] w (GridX (twV l step) 8 w):=by
 have ay:=Za (fun w' h=>zk1 n c A l hn w' (hl.ext h))
 have hni:∀W,(binOp .eql 52 (.slice none 0 0) (.slice none 0 0)).run Tryz.prog W = .ok (.bool true) W:=fun _=>rfl
 have hso:∀W b o n c,(binOp .eql 52 (.slice (some ⟨b,o,none⟩) n c) (.slice none 0 0)).run Tryz.prog W = .ok (.bool false) W:=fun _ _ _ _ _=>rfl
 have aN:=Za (Tb.new w (.int .i64 0) (.int .i64 0) (.slice none 0 0) 54)
 obtain ⟨x,hx⟩:∃x,rowR l=x:=⟨_,rfl⟩
 rw [hx] at ay
 have aX:=Za hx
 clear hl
 rcases x with _ | r
 ·have HN:=Za (show twV l step=none by rw [twV,hx])
  clear hx
  go_enter Tryz.func28,Tryz.ntmps28
  go_wp2_with (first
   | (go_at_call 57;((with_reducible refine (ay.out _ zx).mono ?_);rintro e w1 ⟨ai,rfl⟩;have ap:=Za (((Ze w).alloc _).trans ai);obtain ⟨⟨r0,r1,r2⟩,f0,f1,f2⟩:=aN.out.ext ai;clear ai)))
  refine zbW r0 r1 r2 fun WF hWF ⟨v0,v1,v2⟩=>?_
  refine bodyPost_ret (v := .tuple #[.agg #[.int .i64 0,.int .i64 0,.slice none 0 0],.int .i64 8]) (by simp [results,Tryz.f28,go_sem,v0,v1,v2]) rfl (zhr HN.out ?_)
  rw [<-hWF]
  exact ((ap.out.set (Zb _) _).set (Zb _) _).set (Zb _) _
 have aQ:=zhQ hx
 obtain ⟨N,hN⟩:∃N,r.length=N:=⟨_,rfl⟩
 have HN:=Za (show twV l step=some (twGo r (modZ step N) N 0 [] 0) by rw [twV,hx,<-hN])
 have ae:=Za hN
 have aL:=Za (show ∀g,twV l step=some g->okG g from fun g h=>zoN h)
 rw [hN] at aQ
 obtain ⟨hN2,aj⟩:=aQ
 have q0:((N:Int)==0)=false:=by simpa using (show N≠0 by omega)
 have q1:¬(N:Int)=0:=by omega
 obtain ⟨hz,a5,ht⟩:=zpF (a:=step) (n:=N) (by omega)
 have hz:=hz.symm
 have i1:=Zj (Int.tmod step N+N) (by omega)
 obtain ⟨s,hs⟩:∃s,modZ step N=s:=⟨_,rfl⟩
 rw [hs] at hz a5 HN
 obtain ⟨z,hzz⟩:∃z,twV l step=z:=⟨_,rfl⟩
 rw [hzz] at HN aL ⊢
 clear hx hN ht hs hzz aX
 go_enter Tryz.func28,Tryz.ntmps28
 go_wp2_with (first
  | (go_at_call 57;((with_reducible refine (ay.out _ zx).mono ?_);rintro e w1 ⟨ai,v,rfl,hv⟩;have aR:=ae.out;rw [aR] at hv;have ap:=Za (((Ze w).alloc _).trans ai);have al:=Za (aN.out.ext ai);obtain ⟨A1,c1,rfl,aE, -⟩:=zan hv;have aT:=Za (zeM hv);obtain ⟨b1,o1,rfl,hb1, -⟩:=zaX aE (by omega);have aO:=Za aE;clear ai hv aE aR)))
 have az:=Za (show TwS w1 (w1.alloc (.cells #[.int .i64 (N:Int),.int .i64 0,.slice none 0 0] 54)) w1.heap.size N 0 none 0 [] from
  ⟨(Ze _).alloc _,Tb.new w1 _ _ _ _,OwnV.nil _ _ _ _,by simp [Value.ownBlock],Zb _⟩)
 have aU:=Za (show ∀(m k:Nat) (wx:World),m+k=N->Ext w1 wx->Vec shBool wx (some ⟨b1,o1+m,none⟩) k (r.drop m) from fun m k wx h hx=>by
  have h9:=zaD aO.out (i:=m) (j:=N) (by omega) (Zb _) (by omega)
  rw [show N-m=k by omega,Zs (by rw [ZA,ae.out];omega)] at h9
  exact Vec.ext h9 hx)
 have aV:=Za (show ∀(m k:Nat) (wx:World),m+k=N->Ext w1 wx->Vec shBool wx (some ⟨b1,o1,none⟩) m (r.take m) from fun m k wx h hx=>by
  have h9:=zaD aO.out (i:=0) (j:=m) (by omega) (by omega) (by omega)
  rw [Nat.sub_zero,List.drop_zero,Nat.add_zero] at h9
  exact Vec.ext h9 hx)
 have hcc:=aT.out
 have aY:=Za (show ∀(h k:Nat) (b:List Bool),h<N->k=h*s % N->twGo r s (N-h) k b h=if (h+1)*s % N=0 then ⟨N,h+1,b++turnR r k⟩ else twGo r s (N-(h+1)) ((h+1)*s % N) (b++turnR r k) (h+1) from fun h k b h1 h2=>by
  subst h2
  have h9:=zqt (r:=r) (s:=s) (b:=b) (by rw [ae.out];exact h1)
  rw [ae.out] at h9
  exact h9)
 have aZ:=Za (show ∀m k:Nat,m+k=N->turnR r k=r.drop m++r.take m from fun m k h=>by rw [turnR,ae.out,show N-k=m by omega])
 clear hz i1
 obtain ⟨W2,aP⟩:∃W2,w1.alloc (.cells #[.int .i64 (N:Int),.int .i64 0,.slice none 0 0] 54)=W2:=⟨_,rfl⟩
 rw [aP] at az ⊢
 clear aP
 obtain ⟨O,hO⟩:∃O,w1.heap.size=O:=⟨_,rfl⟩
 have HO:=Za hO
 rw [hO] at az ⊢
 clear hO
 go_loopw [9] (fun kk wr=>∃(h k:Nat) (A:Option Addr) (c:Nat) (b:List Bool),kk = .int .i64 k/\h<N/\k<N/\Hid (k=h*s % N)/\Hid (b.length=h*N)/\Hid (TwS w1 wr O N h A c b)/\Hid (twGo r s N 0 [] 0=twGo r s (N-h) k b h)) (fun _ wr=>N-(intOf ((wr.cell? ⟨O,1,none⟩).getD (.int .i64 0))).toNat)
 case atStart=>exact ⟨0,0,none,0,[],rfl,by omega,by omega,Za (by simp),Za (by simp),az,Za rfl⟩
 case round =>
  obtain ⟨h,k,A2,c2,b,rfl,hh,hk,HK,aF,HS,HT⟩:=hrel
  have aC:b.length<=4096:=by
   rw [aF.out]
   exact Zv (Nat.mul_le_mul (Nat.le_of_lt hh) (Zb N)) (Nat.mul_le_mul aj aj)
  obtain ⟨L,hL⟩:∃L,b.length=L:=⟨_,rfl⟩
  obtain ⟨⟨t0,t1,t2⟩,f0,f1,f2⟩:=HS.out.o
  have hOlt:=HS.out.o.lt
  have aM:=Za HS.out.ow
  have aw:=Za HS.out.no
  have ao:=Za HS.out.o
  have aH:=Za HS.out.ex
  rw [hL] at t2 aC aM aw ao
  have HLL:=Za hL
  clear HS
  clear hL
  obtain ⟨m,hm⟩:∃m,m+k=N:=⟨N-k,by omega⟩
  have HM:=Za hm
  have e1:(N:Int)-(k:Int)=(m:Int):=by omega
  have i2:=Zj (m:Int) (by omega)
  have q2:(0:Int)<=(m:Int):=by omega
  have q3:(m:Int)<=(N:Int):=by omega
  have q4:(m:Int)<=(c1:Int):=by omega
  have q5:(N:Int)<=(c1:Int):=by omega
  have e2:N-m=k:=by omega
  obtain ⟨Ap,hAp⟩:∃Ap:Option Addr,(if c1=m then some ⟨b1,o1,none⟩ else some ⟨b1,o1+m,none⟩)=Ap:=⟨_,rfl⟩
  have aW:=Za (show ∀wx,Ext w1 wx->Vec shBool wx Ap k (r.drop m) from fun wx hx=>by
   rw [<-hAp]
   split
   ·obtain rfl:k=0:=by omega
    rw [ZE (by rw [ae.out];omega)]
    exact Vec.none_ _ _ _
   ·exact aU.out m k wx HM.out hx)
  clear hm
  go_wp2_with fail
  go_region_law (first
   | (refine zaM (S:=shBool) (w:=w1) (xs:=r.drop m) 52 4 (.bool false) 1 (by rfl) (by rfl) Tryz.underlying52 zaI (by rfl) (by omega) (by rfl) (by rfl) (aM.out.ext zx) (aH.out.trans zx) (aW.out _ (aH.out.trans zx)) (by omega) ?_;intro v6 w6 ad ab ag;obtain ⟨A6,c6,rfl, -⟩:=zao ad;have ax:=Za ((ao.out.ext zx).but ag.out.1 aw.out.symm);have av:=Za (zkv aw.out (ao.out.ext zx).lt ag.out))
   | (refine zaM (S:=shBool) (w:=w1) (xs:=r.take m) 52 4 (.bool false) 1 (by rfl) (by rfl) Tryz.underlying52 zaI (by rfl) (by omega) (by rfl) (by rfl) (OwnV.ext ad zx) (ab.out.trans zx) (aV.out m k _ HM.out (ab.out.trans zx)) (by omega) ?_;intro v7 w7 aa ac ah;obtain ⟨A7,c7,rfl, -⟩:=zao aa;have ak:=Za ((ax.out.ext zx).but ah.out.1 av.out.symm);have aK:=Za (zkv av.out (ax.out.ext zx).lt ah.out);obtain ⟨⟨p0,p1,p2⟩,g0,g1,g2⟩:=ak.out))
  all_goals
   have ar:=Za (ak.out.set2 (.slice A7 (L+k+m) c7))
   have af:=Za (TwS.put ac.out ak.out aa aK.out (Nat.le_of_eq HO.out) (.int .i64 ((h:Int)+1)) (by simp))
   have aJ:=Za aa.len
   have aG:=Za (show Ext w1 (w7.setCell ⟨O,2,none⟩ (.slice A7 (L+k+m) c7)) from ac.out.set (Nat.le_of_eq HO.out) _)
   clear p0 p1 p2 g0 g1 g2 t0 t1 t2 f0 f1 f2 ad aa ag ah ab ac aK av ax ak
   obtain ⟨w8,aS⟩:∃w8,w7.setCell ⟨O,2,none⟩ (.slice A7 (L+k+m) c7)=w8:=⟨_,rfl⟩
   rw [aS] at ar af aG ⊢
   clear aS
   have HG:=Za (HT.out.trans (aY.out h k b hh HK.out))
   rw [aZ.out m k HM.out,<-Zr] at HG
   obtain ⟨k9,aq⟩:∃k9,(h+1)*s % N=k9:=⟨_,rfl⟩
   rw [aq] at HG
   have aB:(k+s) % N=k9:=by rw [HK.out,zc1,aq]
   have aD:k9<N:=by rw [<-aB];exact Nat.mod_lt _ (by omega)
   have i3:=Zj ((k:Int)+(s:Int)) (by omega)
   have i4:=Zj ((h:Int)+1) (by omega)
   have a3:((k:Int)+(s:Int)) % (N:Int)=(k9:Int):=by rw [<-aB];simp
   have hm1:Int.tmod ((k:Int)+(s:Int)) (N:Int)=(k9:Int):=by rw [Int.tmod_eq_emod_of_nonneg (by omega)];exact a3
   have aI:=Za aq.symm
   have HB9:=Za (show (b++r.drop m++r.take m).length=(h+1)*N by
    rw [Zr,Zc,Zc,ZA,Zw,aF.out,ae.out,Nat.add_mul,Nat.one_mul]
    have:=HM.out
    omega)
   obtain ⟨b9,hb9⟩:∃b9,b++r.drop m++r.take m=b9:=⟨_,rfl⟩
   rw [hb9] at af HG HB9 aJ
   obtain ⟨⟨s0,s1,s2⟩,g0,g1,g2⟩:=ar.out
   clear aq aB hb9 ar
   by_cases h0:k9=0
   ·subst h0
    have au:=Za (HG.out.trans (if_pos rfl))
    have a1:¬w.heap.size=O:=by have:=al.out.lt;have:=HO.out;omega
    have hOR:¬O=w.heap.size:=fun e=>a1 e.symm
    have a0:=Za (show w.heap.size<=w1.heap.size from Zt ap.out)
    obtain ⟨⟨r0,r1,r2⟩,x0,x1,x2⟩:=al.out.ext aG.out
    go_wp2
    have HZ:=Za (HN.out.trans (congrArg some au.out))
    have am:=Za (al.out.ext af.out.ex)
    have HX9:=Za (ap.out.trans af.out.ex)
    have aA:=Za af.out.ow
    obtain ⟨w9,a4⟩:∃w9,w8.setCell ⟨O,1,none⟩ (.int .i64 ((h:Int)+1))=w9:=⟨_,rfl⟩
    rw [a4] at am HX9 aA ⊢
    refine zbW am.out.1.1 am.out.1.2.1 am.out.1.2.2 fun WF hWF ⟨v0,v1,v2⟩=>?_
    have a2:=aJ.out
    refine bodyPost_ret (v := .tuple #[gridV A7 c7 ⟨N,h+1,b9⟩,.int .i64 0]) (by simp [results,Tryz.f28,go_sem,v0,v1,v2,gridV,a2]) rfl (zfk HZ.out (zhq (B:=w1.heap.size) (aL.out _ HZ.out) a0.out ?_ ?_))
    ·rw [<-hWF]
     refine World.ownsRow.kept aA.out (zr4 w9 w.heap.size _ _ _) (.inr fun e=>?_)
     have h9:=(OwnV.blk aA.out _ e).1
     have:=al.out.lt
     omega
    ·rw [<-hWF]
     exact ((HX9.out.set (Zb _) _).set (Zb _) _).set (Zb _) _
   ·have hq:((k9:Int)==0)=false:=by simpa using h0
    have au:=Za (HG.out.trans (if_neg h0))
    have HH:=Za (zqv (s:=s) hh (by rw [<-aI.out];exact h0))
    go_wp2
    refine ⟨⟨h+1,k9,A7,c7,b9,by first | rfl | go_num,HH.out,aD,aI,HB9,af,au⟩,?_⟩
    have h9:=af.out.o.1.2.1
    rw [h9,ao.out.1.2.1]
    simp [intOf]
    omega
end Go.Proofs.YtbjgpbojjhldaaaGreatDoor
/- satin.Satin. -/
namespace Go.Proofs.YtbjgpbojjhldaaaGreatDoor
set_option maxRecDepth 100000
open Go.RowKit Go.ChangeShapes Go.WideShapes Go.Joins
theorem RowV.mk_ (w:World) (n:Nat) (z:Value) (t:TypeId):RowV (w.alloc (.cells (madeCells #[z] n) t)) w.heap.size n (fun _=>z):=by
 have h1:(w.alloc (.cells (madeCells #[z] n) t)).heap[w.heap.size]?=some (.cells (madeCells #[z] n) t):=heap_alloc_new w _
 refine ⟨by rw [ZP];exact Nat.lt_succ_self _,fun j hj=>⟨?_,?_⟩⟩
 ·rw [cell_of_row _ w.heap.size j _ t (0,0) h1]
  simp [madeCells,hj,Nat.mod_one]
 ·simp only [World.frozen?];rw [h1];simp
def satC (N M k i:Nat):Bool:=decide (i / N<k/\i % N=(i / N*M) % N)
theorem zk2 {N M k i:Nat} (hN:0<N):satC N M (k+1) i=if i=k*N+k*M % N then true else satC N M k i:=by
 have hx:=Nat.mod_lt (k*M) hN
 by_cases e:i=k*N+k*M % N
 ·rw [if_pos e]
  have e1:i / N=k:=by rw [e,Nat.mul_comm,Nat.mul_add_div hN,Nat.div_eq_of_lt hx,Nat.add_zero]
  have e2:i % N=k*M % N:=by rw [e,Nat.mul_comm k N,Nat.mul_add_mod,Nat.mod_mod]
  simp only [satC,Zy]
  exact ⟨by omega,by rw [e1,e2]⟩
 ·rw [if_neg e,satC,satC]
  apply decide_eq_decide.2
  constructor
  ·rintro ⟨h1,h2⟩
   refine ⟨?_,h2⟩
   rcases ZX (i / N) k with h | h
   ·exact h
   ·exfalso
    have e3:i / N=k:=by omega
    apply e
    have h9:=Nat.div_add_mod i N
    rw [h2,e3,Nat.mul_comm] at h9
    exact h9.symm
  ·rintro ⟨h1,h2⟩
   exact ⟨by omega,h2⟩
theorem znB {N M i:Nat} (hi:i<N*N):satC N M N i=decide (i % N=(i / N*M) % N):=by
 rw [satC]
 apply decide_eq_decide.2
 exact ⟨fun h=>h.2,fun h=>⟨Nat.div_lt_of_lt_mul hi,h⟩⟩
theorem zk4 (n m:Int) (hn : -9999999<=n/\n<=9999999) (hm : -9999999<=m/\m<=9999999) (w:World) :
  Calls Tryz.prog 120 #[.int .i64 n,.int .i64 m] w (GridX (satV n m) 2 w):=by
 have ai:=Za (fun w'=>ziQ n m hn hm w')
 have aw:=Za (Tb.new w (.int .i64 0) (.int .i64 0) (.slice none 0 0) 54)
 obtain ⟨x,hx⟩:∃x,moveB n m=x:=⟨_,rfl⟩
 rw [hx] at ai
 cases x
 ·have HN:=Za (show satV n m=none by rw [satV,hx];rfl)
  clear hx
  go_enter Tryz.func120,Tryz.ntmps120
  go_wp2_with (first
   | (go_at_call 161;((with_reducible refine (ai.out _).mono ?_);rintro e w1 ⟨rfl,aa⟩;have al:=Za (((Ze w).alloc _).trans aa);obtain ⟨⟨r0,r1,r2⟩,f0,f1,f2⟩:=aw.out.ext aa;clear aa)))
  refine zbW r0 r1 r2 fun WF hWF ⟨v0,v1,v2⟩=>?_
  refine bodyPost_ret (v := .tuple #[.agg #[.int .i64 0,.int .i64 0,.slice none 0 0],.int .i64 2]) (by simp [results,Tryz.f120,go_sem,v0,v1,v2]) rfl (zhr HN.out ?_)
  rw [<-hWF]
  exact ((al.out.set (Zb _) _).set (Zb _) _).set (Zb _) _
 have hb:=zks hx
 obtain ⟨N,rfl⟩:=Int.eq_ofNat_of_zero_le (show 0<=n by omega)
 obtain ⟨M,rfl⟩:=Int.eq_ofNat_of_zero_le (show 0<=m by omega)
 have HZ:=Za (show satV N M=some ⟨N,N,(List.range (N*N)).map (satC N M N)⟩ by
  rw [satV,if_pos hx]
  simp only [Int.toNat_natCast]
  congr 2
  apply List.map_congr_left
  intro i hi
  exact (znB (ZG.1 hi)).symm)
 have aG:=Za (show ∀g,satV N M=some g->okG g from fun g h=>zk3 h)
 obtain ⟨z,hz⟩:∃z,satV N M=z:=⟨_,rfl⟩
 rw [hz] at HZ aG ⊢
 obtain ⟨h5,h64,hM1,hM2, -⟩:=hb
 have aJ:N*N<=4096:=Nat.mul_le_mul (show N<=64 by omega) (show N<=64 by omega)
 obtain ⟨NN,hNe⟩:∃NN,N*N=NN:=⟨_,rfl⟩
 have hmm:(N:Int)*(N:Int)=(NN:Int):=by rw [<-hNe];simp
 rw [hNe] at aJ HZ
 have ad:=Za hNe
 have i1:=Zj (NN:Int) (by omega)
 have q0:((N:Int)==0)=false:=by simpa using (show N≠0 by omega)
 have q1:¬(N:Int)=0:=by omega
 obtain ⟨i0,hi,az,hz1,aA⟩:=info_parts zaI
 have aL:∀W',(Instr.makeSlice 52 (.int .i64 (NN:Int)) (.int .i64 (NN:Int))).run Tryz.prog W' = .ok (.slice (some ⟨W'.heap.size,0,none⟩) NN NN) (W'.alloc (.cells (madeCells (Value.bool false).cells (NN*1)) 4)):=fun W'=>by
  have h9:=run_make (P:=Tryz.prog) W' 52 4 i0 (.bool false) Tryz.underlying52 hi az .i64 .i64 (NN:Int) (NN:Int) (by omega) (Int.le_refl _) (by rw [aA];omega) (by omega)
  simpa [hz1] using h9
 clear i0 hi az hz1 aA hn hm hx hz hNe
 go_enter Tryz.func120,Tryz.ntmps120
 go_wp2_with (first
  | (go_at_call 161;((with_reducible refine (ai.out _).mono ?_);rintro e w1 ⟨rfl,aa⟩;have al:=Za (((Ze w).alloc _).trans aa);have au:=Za (aw.out.ext aa);clear aa)))
 obtain ⟨B,hB⟩:∃B,w1.heap.size=B:=⟨_,rfl⟩
 have ar:=Za (RowV.mk_ w1 NN (.bool false) 4)
 have ae:=Za (Tb.new (w1.alloc (.cells (madeCells #[.bool false] NN) 4)) (.int .i64 (N:Int)) (.int .i64 (N:Int)) (.slice (some ⟨B,0,none⟩) NN NN) 54)
 rw [ZP] at ae
 obtain ⟨W2,ac⟩:∃W2,(w1.alloc (.cells (madeCells #[.bool false] NN) 4)).alloc (.cells #[.int .i64 (N:Int),.int .i64 (N:Int),.slice (some ⟨B,0,none⟩) NN NN] 54)=W2:=⟨_,rfl⟩
 have aI:=Za (show RowV W2 B NN (fun i => .bool (satC N M 0 i)) by
  have h9:=ar.out.ext ((Ze _).alloc (.cells #[.int .i64 (N:Int),.int .i64 (N:Int),.slice (some ⟨B,0,none⟩) NN NN] 54))
  rw [ac,hB] at h9
  exact h9.congr fun j _=>by simp [satC])
 have aF:=Za (show NoB W2 B by
  have h9:=(NoB.new w1 (madeCells #[.bool false] NN) 4 (by decide)).ext (by simp) ((Ze _).alloc (.cells #[.int .i64 (N:Int),.int .i64 (N:Int),.slice (some ⟨B,0,none⟩) NN NN] 54))
  rw [ac,hB] at h9
  exact h9)
 have aC:=Za (show Ext w1 W2 by rw [<-ac];exact ((Ze _).alloc _).alloc _)
 rw [hB] at ae ⊢
 rw [ac] at ae ⊢
 have HB:=Za hB
 clear ac hB ar aL
 have av:=Za (show w.heap.size<B by have:=au.out.lt;have:=HB.out;omega)
 go_loopw [7,22] (fun xx yy wr=>∃(k x:Nat),xx = .int .i64 x/\yy = .int .i64 k/\k<=N/\x<N/\Hid (x=k*M % N)/\Hid (RowV wr B NN (fun i => .bool (satC N M k i)))/\Hid (Tb wr (B+1) (.int .i64 (N:Int)) (.int .i64 (N:Int)) (.slice (some ⟨B,0,none⟩) NN NN))/\Hid (Ext w1 wr)/\Hid (NoB wr B)) (fun _ yy _=>N-(intOf yy).toNat)
 case atStart=>exact ⟨0,0,rfl,rfl,by omega,by omega,Za (by simp),aI,ae,aC,aF⟩
 case round =>
  obtain ⟨k,x,rfl,rfl,hk,hx,ax,ab,aj,ah,aq⟩:=hrel
  by_cases hlt:k<N
  ·have q2:(0:Int)<=(k:Int):=by omega
   have q3:(k:Int)<(N:Int):=by omega
   obtain ⟨y1,hy1⟩:∃y1,k*N=y1:=⟨_,rfl⟩
   have hy2:(k:Int)*(N:Int)=(y1:Int):=by rw [<-hy1];simp
   obtain ⟨p,hp⟩:∃p,y1+x=p:=⟨_,rfl⟩
   have hp2:(y1:Int)+(x:Int)=(p:Int):=by omega
   have ao:p<NN:=by
    have h9:(k+1)*N<=N*N:=Nat.mul_le_mul_right N hlt
    rw [ad.out,Nat.add_mul,Nat.one_mul] at h9
    omega
   have q4:(0:Int)<=(p:Int):=by omega
   have q5:(p:Int)<(NN:Int):=by omega
   have i2:=Zj (y1:Int) (by omega)
   have i3:=Zj (p:Int) (by omega)
   have i4:=Zj ((x:Int)+(M:Int)) (by omega)
   obtain ⟨x9,ag⟩:∃x9,(x+M) % N=x9:=⟨_,rfl⟩
   have aK:((x:Int)+(M:Int)) % (N:Int)=(x9:Int):=by rw [<-ag];simp
   have hm1:Int.tmod ((x:Int)+(M:Int)) (N:Int)=(x9:Int):=by rw [Int.tmod_eq_emod_of_nonneg (by omega)];exact aK
   have ap:x9<N:=by rw [<-ag];exact Nat.mod_lt _ (by omega)
   have HX9:=Za (show x9=(k+1)*M % N by rw [<-ag,ax.out,zc1])
   have HP:=Za (show p=k*N+k*M % N by rw [<-hp,<-hy1,ax.out])
   have HS:=Za ((ab.out.set ao (.bool true)).congr (f':=fun i => .bool (satC N M (k+1) i)) (fun j hj=>by
    rw [zk2 (by omega),<-HP.out]
    split <;> rfl))
   have aD:=Za (ah.out.set (p:=⟨B,p,none⟩) (Nat.le_of_eq HB.out) (.bool true))
   have aH:=Za (aj.out.but (((But.refl (some B) _).own rfl (.bool true):But (some B) wr (wr.setCell ⟨B,p,none⟩ (.bool true)))) (by simp))
   have hc:=ab.out.at_ ao
   have hf:=ab.out.free ao
   have hBl:=ab.out.lt
   obtain ⟨⟨t0,t1,t2⟩,g0,g1,g2⟩:=aj.out
   clear hp ag hy1
   go_wp2_with fail
   refine ⟨⟨k+1,x9,by first | rfl | go_num,by go_num,by omega,ap,HX9,HS,aH,aD,Za (aq.out.set _ _)⟩,?_⟩
   simp [intOf]
   omega
  ·obtain rfl:k=N:=by omega
   obtain ⟨⟨t0,t1,t2⟩,g0,g1,g2⟩:=aj.out
   obtain ⟨⟨r0,r1,r2⟩,f0,f1,f2⟩:=au.out.ext ah.out
   have HX9:=Za (al.out.trans ah.out)
   have aE:=Za (show ((List.range (k*k)).map (satC k M k)).length=NN by rw [List.length_map,List.length_range,ad.out])
   go_wp2
   refine zbW r0 r1 r2 fun WF hWF ⟨v0,v1,v2⟩=>?_
   have af:=aE.out
   obtain ⟨b9,am⟩:∃b9,(List.range (k*k)).map (satC k M k)=b9:=⟨_,rfl⟩
   have HB9:=Za (show ∀j,j<NN->b9.getD j false=satC k M k j from fun j hj=>by
    rw [<-am,Zd,List.getElem?_map,List.getElem?_range (by rw [ad.out];exact hj)]
    rfl)
   have aB:=HZ.out
   rw [<-ad.out,am] at aB
   rw [am] at af
   have ak:=Za (show RowV WF B NN (fun i => .bool (satC k M k i)) by
    rw [<-hWF]
    exact ab.out.but (zr4 wr w.heap.size _ _ _) (by have:=av.out;simp only [ne_eq,Option.some.injEq];omega))
   refine bodyPost_ret (v := .tuple #[gridV (some ⟨B,0,none⟩) NN ⟨k,k,b9⟩,.int .i64 0]) (by simp [results,Tryz.f120,go_sem,v0,v1,v2,gridV,af]) rfl (zfk aB ⟨B,0,NN,rfl,?_,?_,Nat.le_of_eq af,Nat.le_of_lt av.out,ak.out.lt,by rw [<-hWF];exact ((aq.out.set _ _).set _ _).set _ _⟩)
   ·rw [<-hWF]
    exact ((HX9.out.set (Zb _) _).set (Zb _) _).set (Zb _) _
   ·exact zhg rfl ak.out.lt fun j hj=>by
     have ay:j<NN:=by rw [<-af];exact hj
     rw [Nat.zero_add,ak.out.at_ ay,HB9.out j ay]
end Go.Proofs.YtbjgpbojjhldaaaGreatDoor
/- console.weave. -/
namespace Go.Proofs.YtbjgpbojjhldaaaGreatDoor
set_option maxRecDepth 100000
open Go.RowKit
theorem zk9 {w:World} {b B o:Nat} {v0 v1 v2:Value} (hb:b≠B) :
  (((w.setCell ⟨B,0,none⟩ v0).setCell ⟨B,1,none⟩ v1).setCell ⟨B,2,none⟩ v2).cell? ⟨b,o,none⟩=w.cell? ⟨b,o,none⟩:=by
 rw [Zg _ _ _ _ (fun h=>?_),Zg _ _ _ _ (fun h=>?_),Zg _ _ _ _ (fun h=>?_)]
 all_goals (injection h with h1;omega)
theorem zla (w:World) (B:Nat) (v0 v1 v2:Value):(((w.setCell ⟨B,0,none⟩ v0).setCell ⟨B,1,none⟩ v1).setCell ⟨B,2,none⟩ v2).heap.size=w.heap.size:=by simp [World.setCell]
theorem zd3 {w5:World} {S B b off c:Nat} {g:Gd} {z0 z1 z2:Value} (hS:S<B) (hB:B<b) (hb:b<w5.heap.size) (hv:GridAt w5 (some ⟨b,off,none⟩) g) (hc:g.b.length<=c) (hok:okG g)
  (h0:w5.cell? ⟨B,0,none⟩=some z0) (h1:w5.cell? ⟨B,1,none⟩=some z1) (h2:w5.cell? ⟨B,2,none⟩=some z2) (n1:NoB w5 B) (n2:NoB w5 b) :
  HoldC (((w5.setCell ⟨B,0,none⟩ (.int .i64 g.w)).setCell ⟨B,1,none⟩ (.int .i64 g.h)).setCell ⟨B,2,none⟩ (.slice (some ⟨b,off,none⟩) g.b.length c)) S (some ⟨B,0,none⟩) (some g):=by
 obtain ⟨c0,c1,c2⟩:=zfT (v0 := .int .i64 g.w) (v1 := .int .i64 g.h) (v2 := .slice (some ⟨b,off,none⟩) g.b.length c) h0 h1 h2
 have hz:=zla w5 B (.int .i64 g.w) (.int .i64 g.h) (.slice (some ⟨b,off,none⟩) g.b.length c)
 refine ⟨B,b,off,c,rfl,by omega,by rw [hz];omega,by omega,by rw [hz];omega,c0,c1,c2,hc,?_,hok,((n1.set _ _).set _ _).set _ _,((n2.set _ _).set _ _).set _ _⟩
 refine Vec.keep hv (by rw [hz];omega) fun b' off' e o=>?_
 cases e
 exact zk9 (by omega)
theorem Ints.from1 {w:World} {b off n:Nat} {l:List Int} (h:Ints w (some ⟨b,off,none⟩) n l) (hn:1<=n):Ints w (some ⟨b,off+1,none⟩) (n-1) (l.drop 1):=by
 refine ⟨by rw [ZA,h.1],fun h1=>?_⟩
 obtain ⟨b',off',e,hb,hc⟩:=h.2 (by omega)
 cases e
 refine ⟨b,off+1,rfl,hb,fun j hj=>?_⟩
 have h2:=hc (j+1) (by omega)
 rw [show off+1+j=off+(j+1) by omega,h2]
 rw [Zd,Zd,ZZ,Nat.add_comm]
theorem zZ5 {p:Prop} (h:p:=by
 obtain ⟨Wg,hWg⟩:∃W,(((w5.setCell ⟨w.heap.size,0,none⟩ (.int .i64 g.w)).setCell ⟨w.heap.size,1,none⟩ (.int .i64 g.h)).setCell ⟨w.heap.size,2,none⟩ (.slice (some ⟨b5,off5,none⟩) g.b.length c5))=W:=⟨_,rfl⟩
 rw [hWg]
 have HXG:=Za (show Ext w Wg from hWg ▸ ZJ (ZJ (ZJ HX5.out (Zb _) _) (Zb _) _) (Zb _) _)
 have HHG:=Za (show HoldC Wg S (some ⟨w.heap.size,0,none⟩) (some g) from hWg ▸ HH.out)
 have fz1:=(Below.frozen (p:=⟨S,1,none⟩) HXG.out hlt).trans f1
 have hp1:=(Zl (p:=⟨S,1,none⟩) HXG.out hlt).trans hp
 have hltg:S<Wg.heap.size:=Zi hlt (Zt HXG.out)
 clear hWg hf5 HH
 go_wp2_with fail
 go_ret2
 rw [HV.out]
 exact ⟨rfl,(HS.out.ext HXG.out).setC HHG.out,(But.of_ext HXG.out _).own rfl _⟩):p:=h
theorem zge (S n c:Nat) (A:Option Addr) (st:Cs) (l:List Int) (w:World) (hs:StAt w S st) (hl:Ints w A n l) (hn:2<=n) (hn2:n<=1000000) (hcap:n<=c) :
  Calls Tryz.prog 70 #[.pointer (some ⟨S,0,none⟩),.string ⟨kTwill.toArray⟩,.slice A n c] w (CmdR w S (wevV st kTwill l)):=by
 have HS:=Za hs
 obtain ⟨b,off,rfl,hb,hc⟩:=hl.2 (by omega)
 have c0:=hc 0 (by omega)
 simp only [Nat.add_zero] at c0
 have hl1:=hl.from1 (by omega)
 have q0:(0:Int)<(n:Int):=by omega
 have q1:(1:Int)<=(n:Int):=by omega
 have q2:(n:Int)<=(c:Int):=by omega
 have q3:(1:Int)<=(c:Int):=by omega
 have q4:0<n:=by omega
 have q5:¬c=1:=by omega
 have hv:wevV st kTwill l=(match twV (l.drop 1) (l.getD 0 0) with
  | none=>(st,([],8))
  | some g=>(⟨st.g,some g⟩,(okB,0))):=by
  rw [wevV,if_pos rfl]
  cases twV (l.drop 1) (l.getD 0 0) <;> rfl
 have hok:∀g,twV (l.drop 1) (l.getD 0 0)=some g->okG g:=fun g h=>zoN h
 obtain ⟨x0,hx0⟩:∃x,l.getD 0 0=x:=⟨_,rfl⟩
 rw [hx0] at c0 hv hok
 have HF:=Za (show ∀w',Ext w w'->Calls Tryz.prog 28 #[.slice (some ⟨b,off+1,none⟩) (n-1) (c-1),.int .i64 x0] w' (GridX (twV (l.drop 1) x0) 8 w') from fun w' h=>zlB (n-1) (c-1) (some ⟨b,off+1,none⟩) (l.drop 1) x0 (by omega) w' (hl1.ext h))
 obtain ⟨hlt,⟨f0,f1⟩, -,⟨p,hp, -⟩⟩:=id hs
 rcases hx:twV (l.drop 1) x0 with _ | g
 ·rw [hx] at hv HF
  have HV:=Za hv
  have ad:=Za (show ∀w',Ext w w'->Calls Tryz.prog 28 #[.slice (some ⟨b,off+1,none⟩) (n-1) (c-1),.int .i64 x0] w' (fun e w''=>e = .returned (.tuple #[.agg #[.int .i64 0,.int .i64 0,.slice none 0 0],.int .i64 8])/\Ext w' w'') from HF.out)
  clear hs hl hc hv hok hx hx0 HF hl1
  go_enter Tryz.func70,Tryz.ntmps70
  go_wp2_with fail
  go_region_held3 (fun w'=>w'.cell? ⟨b,off,none⟩=some (.int .i64 x0)) (first | go_keep | exact zaW (by omega) (by assumption))
   (first | (go_at_call 28;((with_reducible refine (ad.out _ zx).mono ?_);rintro e5 w5 ⟨rfl,hq5⟩;have HX5:=Za (show Ext w w5 from zx);have hf5:=hq5.facts;have k0:=(Zl (p:=⟨b,off,none⟩) HX5.out hb).trans c0;clear hq5)))
  obtain ⟨Wg,hWg⟩:∃W,(((w5.setCell ⟨w.heap.size,0,none⟩ (.int .i64 0)).setCell ⟨w.heap.size,1,none⟩ (.int .i64 0)).setCell ⟨w.heap.size,2,none⟩ (.slice none 0 0))=W:=⟨_,rfl⟩
  rw [hWg]
  have HXG:=Za (show Ext w Wg from hWg ▸ ZJ (ZJ (ZJ HX5.out (Zb _) _) (Zb _) _) (Zb _) _)
  clear hWg hf5
  go_wp2_with fail
  go_ret2
  rw [HV.out]
  exact zac HS.out (HXG.out.trans zx) rfl
 ·rw [hx] at hv HF
  have HV:=Za hv
  have ah:=Za (hok g hx)
  have ad:=Za (show ∀w',Ext w w'->Calls Tryz.prog 28 #[.slice (some ⟨b,off+1,none⟩) (n-1) (c-1),.int .i64 x0] w' (fun e w''=>∃b off c,e = .returned (.tuple #[.agg #[.int .i64 g.w,.int .i64 g.h,.slice (some ⟨b,off,none⟩) g.b.length c],.int .i64 0])/\Ext w' w''/\GridAt w'' (some ⟨b,off,none⟩) g/\g.b.length<=c/\w'.heap.size<=b/\b<w''.heap.size/\NoB w'' b) from HF.out)
  clear hs hl hc hv hok hx hx0 HF hl1
  go_enter Tryz.func70,Tryz.ntmps70
  go_wp2_with fail
  go_region_held3 (fun w'=>w'.cell? ⟨b,off,none⟩=some (.int .i64 x0)) (first | go_keep | exact zaW (by omega) (by assumption))
   (first | (go_at_call 28;((with_reducible refine (ad.out _ zx).mono ?_);rintro e5 w5 ⟨b5,off5,c5,rfl,hq5,ag,af,ae,aj,ab⟩;have aa:=(NoB.new w #[.int .i64 0,.int .i64 0,.slice none 0 0] 54 (by decide)).ext (by simp) (Zm (ZR (Ze _)) hq5);have HX5:=Za (show Ext w w5 from zx);have ai:w.heap.size<b5:=Zi (by simp) ae;have ac:=zdP hq5;have HH:=Za (zd3 hlt ai aj ag af ah.out ac.1 ac.2.1 ac.2.2 aa ab);have hf5:=hq5.facts;have k0:=(Zl (p:=⟨b,off,none⟩) HX5.out hb).trans c0;clear hq5 ag af ae ac aa ab)))
  exact zZ5
theorem zgd (S n c:Nat) (A:Option Addr) (st:Cs) (l:List Int) (w:World) (hs:StAt w S st) (hb9:∀x∈l, -9999999<=x/\x<=9999999) (hl:Ints w A n l) (hn:2=n) :
  Calls Tryz.prog 70 #[.pointer (some ⟨S,0,none⟩),.string ⟨kSatin.toArray⟩,.slice A n c] w (CmdR w S (wevV st kSatin l)):=by
 subst hn
 have aa:=hl.1
 have b0 : -9999999<=l.getD 0 0/\l.getD 0 0<=9999999:=by rw [Zd,Zf (by omega)];exact hb9 _ (List.getElem_mem _)
 have b1 : -9999999<=l.getD 1 0/\l.getD 1 0<=9999999:=by rw [Zd,Zf (by omega)];exact hb9 _ (List.getElem_mem _)
 have HS:=Za hs
 obtain ⟨b,off,rfl,hb,hc⟩:=hl.2 (by omega)
 have c0:=hc 0 (by omega)
 have c1:=hc 1 (by omega)
 simp only [Nat.add_zero] at c0
 have hv:wevV st kSatin l=(match satV (l.getD 0 0) (l.getD 1 0) with
  | none=>(st,([],2))
  | some g=>(⟨st.g,some g⟩,(okB,0))):=by
  rw [wevV,if_neg (by decide)]
  cases satV (l.getD 0 0) (l.getD 1 0) <;> rfl
 have hok:∀g,satV (l.getD 0 0) (l.getD 1 0)=some g->okG g:=fun g h=>zk3 h
 obtain ⟨x0,hx0⟩:∃x,l.getD 0 0=x:=⟨_,rfl⟩
 rw [hx0] at c0 hv hok b0
 obtain ⟨x1,hx1⟩:∃x,l.getD 1 0=x:=⟨_,rfl⟩
 rw [hx1] at c1 hv hok b1
 have HF:=Za (show ∀w',Ext w w'->Calls Tryz.prog 120 #[.int .i64 x0,.int .i64 x1] w' (GridX (satV x0 x1) 2 w') from fun w' h=>zk4 x0 x1 b0 b1 w')
 obtain ⟨hlt,⟨f0,f1⟩, -,⟨p,hp, -⟩⟩:=id hs
 rcases hx:satV x0 x1 with _ | g
 ·rw [hx] at hv HF
  have HV:=Za hv
  have ae:=Za (show ∀w',Ext w w'->Calls Tryz.prog 120 #[.int .i64 x0,.int .i64 x1] w' (fun e w''=>e = .returned (.tuple #[.agg #[.int .i64 0,.int .i64 0,.slice none 0 0],.int .i64 2])/\Ext w' w'') from HF.out)
  clear hs hl hc hv hok hx hx0 HF hx1 hb9 aa
  go_enter Tryz.func70,Tryz.ntmps70
  go_wp2_with fail
  go_region_held3 (fun w'=>w'.cell? ⟨b,off,none⟩=some (.int .i64 x0)/\w'.cell? ⟨b,off+1,none⟩=some (.int .i64 x1)) (first | go_keep | exact ⟨zaW (by omega) (by assumption),zaW (by omega) (by assumption)⟩)
   (first | (go_at_call 120;((with_reducible refine (ae.out _ zx).mono ?_);rintro e5 w5 ⟨rfl,hq5⟩;have HX5:=Za (show Ext w w5 from zx);have hf5:=hq5.facts;obtain ⟨k0,k1⟩:=zds HX5.out hb c0 c1;clear hq5)))
  obtain ⟨Wg,hWg⟩:∃W,(((w5.setCell ⟨w.heap.size,0,none⟩ (.int .i64 0)).setCell ⟨w.heap.size,1,none⟩ (.int .i64 0)).setCell ⟨w.heap.size,2,none⟩ (.slice none 0 0))=W:=⟨_,rfl⟩
  rw [hWg]
  have HXG:=Za (show Ext w Wg from hWg ▸ ZJ (ZJ (ZJ HX5.out (Zb _) _) (Zb _) _) (Zb _) _)
  clear hWg hf5
  go_wp2_with fail
  go_ret2
  rw [HV.out]
  exact zac HS.out (HXG.out.trans zx) rfl
 ·rw [hx] at hv HF
  have HV:=Za hv
  have ai:=Za (hok g hx)
  have ae:=Za (show ∀w',Ext w w'->Calls Tryz.prog 120 #[.int .i64 x0,.int .i64 x1] w' (fun e w''=>∃b off c,e = .returned (.tuple #[.agg #[.int .i64 g.w,.int .i64 g.h,.slice (some ⟨b,off,none⟩) g.b.length c],.int .i64 0])/\Ext w' w''/\GridAt w'' (some ⟨b,off,none⟩) g/\g.b.length<=c/\w'.heap.size<=b/\b<w''.heap.size/\NoB w'' b) from HF.out)
  clear hs hl hc hv hok hx hx0 HF hx1 hb9 aa
  go_enter Tryz.func70,Tryz.ntmps70
  go_wp2_with fail
  go_region_held3 (fun w'=>w'.cell? ⟨b,off,none⟩=some (.int .i64 x0)/\w'.cell? ⟨b,off+1,none⟩=some (.int .i64 x1)) (first | go_keep | exact ⟨zaW (by omega) (by assumption),zaW (by omega) (by assumption)⟩)
   (first | (go_at_call 120;((with_reducible refine (ae.out _ zx).mono ?_);rintro e5 w5 ⟨b5,off5,c5,rfl,hq5,ah,ag,af,ak,ac⟩;have ab:=(NoB.new w #[.int .i64 0,.int .i64 0,.slice none 0 0] 54 (by decide)).ext (by simp) (Zm (ZR (Ze _)) hq5);have HX5:=Za (show Ext w w5 from zx);have aj:w.heap.size<b5:=Zi (by simp) af;have ad:=zdP hq5;have HH:=Za (zd3 hlt aj ak ah ag ai.out ad.1 ad.2.1 ad.2.2 ab ac);have hf5:=hq5.facts;obtain ⟨k0,k1⟩:=zds HX5.out hb c0 c1;clear hq5 ah ag af ad ab ac)))
  exact zZ5
end Go.Proofs.YtbjgpbojjhldaaaGreatDoor
/- console.number. -/
namespace Go.Proofs.YtbjgpbojjhldaaaGreatDoor
set_option maxRecDepth 100000
open Go.RowKit
def NumRC (x:Option Int) (w:World) (e:Ending) (w':World):Prop:=∃v:Int,e = .returned (.tuple #[.int .i64 v,.bool x.isSome])/\(∀n,x=some n->v=n)/\Ext w w'
theorem zcV {x:Option Int} {w w':World} {v:Int} (h:x=none) (hb:Ext w w'):NumRC x w (.returned (.tuple #[.int .i64 v,.bool false])) w':=by
 subst h
 exact ⟨v,rfl,fun n hn=>(by cases hn),hb⟩
theorem zju {x:Option Int} {n:Int} {w w':World} (h:x=some n) (hb:Ext w w'):NumRC x w (.returned (.tuple #[.int .i64 n,.bool true])) w':=by
 subst h
 exact ⟨n,rfl,fun m hm=>(by cases hm;rfl),hb⟩
theorem zjt (s:List UInt8) (hs:s.length<=1000000) (w:World) (hg:Glob w) :
  Calls Tryz.prog 67 #[.string ⟨s.toArray⟩] w (NumRC (numC atoiO s) w):=by
 cases ha:atoiO s with
 | none =>
  have HN:=Za (show numC atoiO s=none by rw [numC,ha])
  have HA:=Za (zf4 ha hs w hg)
  clear ha
  go_enter Tryz.func67,Tryz.ntmps67
  go_wp2_with (go_at_call 113;((with_reducible refine HA.out.mono ?_);rintro e1 w1 ⟨v,te,p,rfl,aa⟩))
  go_ret2
  exact zcV HN.out aa
 | some n =>
  have HA:=Za (zev ha hs w)
  by_cases h1 : -9999999<=n
  ·by_cases h2:n<=9999999
   ·have HI:=Za (fun w' (h:Ext w w')=>zce n (by omega) (by omega) w' (hg.ext h))
    by_cases h3:itoaZ n=s
    ·have HN:=Za (show numC atoiO s=some n by rw [numC,ha];simp only;rw [if_pos ⟨h1,h2,h3⟩])
     rw [h3] at HI
     clear ha h3
     go_enter Tryz.func67,Tryz.ntmps67
     go_wp2_with (first
      | (go_at_call 113;((with_reducible refine HA.out.mono ?_);rintro e1 w1 ⟨rfl,aa⟩))
      | (go_at_call 36;((with_reducible refine (HI.out _ aa).mono ?_);rintro e2 w2 ⟨rfl,ab⟩)))
     go_ret2
     exact zju HN.out (Zm aa ab)
    ·have HN:=Za (show numC atoiO s=none by rw [numC,ha];simp only;rw [if_neg (fun h=>h3 h.2.2)])
     obtain ⟨t,ht⟩:∃t,itoaZ n=t:=⟨_,rfl⟩
     rw [ht] at HI h3
     have hts:(t==s)=false:=by simpa using h3
     clear ha ht h3
     go_enter Tryz.func67,Tryz.ntmps67
     go_wp2_with (first
      | (go_at_call 113;((with_reducible refine HA.out.mono ?_);rintro e1 w1 ⟨rfl,aa⟩))
      | (go_at_call 36;((with_reducible refine (HI.out _ aa).mono ?_);rintro e2 w2 ⟨rfl,ab⟩)))
     go_ret2
     exact zcV HN.out (Zm aa ab)
   ·have HN:=Za (show numC atoiO s=none by rw [numC,ha];simp only;rw [if_neg (fun h=>h2 h.2.1)])
    have q2:9999999<n:=by omega
    clear ha
    go_enter Tryz.func67,Tryz.ntmps67
    go_wp2_with (go_at_call 113;((with_reducible refine HA.out.mono ?_);rintro e1 w1 ⟨rfl,aa⟩))
    go_ret2
    exact zcV HN.out aa
  ·have HN:=Za (show numC atoiO s=none by rw [numC,ha];simp only;rw [if_neg (fun h=>h1 h.1)])
   have q1:n < -9999999:=by omega
   clear ha
   go_enter Tryz.func67,Tryz.ntmps67
   go_wp2_with (go_at_call 113;((with_reducible refine HA.out.mono ?_);rintro e1 w1 ⟨rfl,aa⟩))
   go_ret2
   exact zcV HN.out aa
end Go.Proofs.YtbjgpbojjhldaaaGreatDoor
