/- The other ways through read; and what read returns of whatever word. -/
import Derived.Test.YtkneghkbgingdaaGreatDoorP19
import Derived.Test.YtkneghkbgingdaaGreatDoorP08
import Derived.Laws.CopyOwn
namespace Go.Proofs.YtkneghkbgingdaaGreatDoor
set_option maxRecDepth 100000
open Go.RowKit
theorem zbW {P:Program} {w:World} (ts:Array TypeId) (t:TypeId) (x y:Int):(Builtin.min_ ts t #[.int .i64 x,.int .i64 y]).run P w = .ok (.int .i64 (min x y)) w:=by
 rw [run_min_int2]
 congr 2
 split <;> omega
set_option maxHeartbeats 2000000 in
theorem zlV (l:List UInt8) (hE:(l==[121,111])=true) (w:World) :
  Calls Tryz.prog 193 #[.string ⟨l.toArray⟩] w fun e w'=>e = .returned (.tuple #[.agg #[.int .u8 2,.bool false,.int .i64 0,.int .i64 0],.int .i64 1])∧Ext w w':=by
 go_enter Tryz.func193,Tryz.ntmps193
 go_wp2
 exact bodyPost_ret (v := .tuple #[.agg #[.int .u8 2,.bool false,.int .i64 0,.int .i64 0],.int .i64 1]) (by simp [results,Tryz.f193,go_sem]) rfl ⟨rfl,by repeat (first | exact Ext.refl _ | assumption | refine Ext.alloc ?_ _ | refine Ext.drew ?_ | refine Ext.set ?_ (by simp) _ | refine Ext.trans ?_ (by assumption))⟩
set_option maxHeartbeats 2000000 in
theorem zl4 (l T:List UInt8) (hl:l.length≤100000) (hE:(l==[121,111])=false) (hP:[111,110].isPrefixOf l=true) (h2:2≤l.length) (hT:T.length≤l.length) (hx:(⟨l.toArray⟩:ByteArray).extract 2 l.length=⟨T.toArray⟩) (w:World) (hg:Glob w) :
  Calls Tryz.prog 193 #[.string ⟨l.toArray⟩] w fun e w'=>e = .returned (.tuple #[.agg #[.int .u8 9,.bool false,.int .i64 (numR T).1,.int .i64 0],.int .i64 1])∧Ext w w':=by
 have HG:=Lib.hid hg
 have HP:=Lib.hid hP
 have q0:(2:Int)≤(l.length:Int):=by omega
 clear hg hP
 go_enter Tryz.func193,Tryz.ntmps193
 go_upto_region 5 with (first
  | (go_at_call 197;(((with_reducible refine (zah l [111,110] _).mono ?_);rintro e w1 ⟨rfl,rfl⟩;rw [HP.out])))
  | (go_at_call 198;(((with_reducible refine (zad T (by omega) _ (HG.out.ext (by repeat (first | exact Ext.refl _ | assumption | refine Ext.alloc ?_ _ | refine Ext.drew ?_ | refine Ext.set ?_ (by simp) _ | refine Ext.trans ?_ (by assumption))))).mono ?_);rintro e w2 ⟨rfl,hq2⟩;have HB2:=Lib.hid ((Bx.new w _ _ _ _ _).ext hq2);have HX2:=Lib.hid (Ext.trans ((Ext.refl w).alloc _) hq2);obtain ⟨⟨b0,b1,b2,b3⟩,f0,f1,f2,f3⟩:=HB2.out))))
 go_wp2
 obtain ⟨WF,hWF⟩:∃WF,(((w2.setCell ⟨w.heap.size,0,none⟩ (.int .u8 9)).setCell ⟨w.heap.size,1,none⟩ (.bool false)).setCell ⟨w.heap.size,2,none⟩ (.int .i64 (numR T).1)).setCell ⟨w.heap.size,3,none⟩ (.int .i64 0)=WF:=⟨_,rfl⟩
 have HX:=Lib.hid (show Ext w WF by rw [←hWF];exact (((HX2.out.set (by simp) _).set (by simp) _).set (by simp) _).set (by simp) _)
 obtain ⟨y0,y1,y2,y3⟩:=zc1 HB2.out.has hWF
 rw [hWF]
 exact bodyPost_ret (v := .tuple #[.agg #[.int .u8 9,.bool false,.int .i64 (numR T).1,.int .i64 0],.int .i64 1]) (by simp [results,Tryz.f193,go_sem,y0,y1,y2,y3]) rfl ⟨rfl,HX.out⟩
set_option maxHeartbeats 2000000 in
theorem zl6 (l:List UInt8) (hE:(l==[121,111])=false) (hP:[111,110].isPrefixOf l=false) (he:l.isEmpty=true) (w:World) :
  Calls Tryz.prog 193 #[.string ⟨l.toArray⟩] w fun e w'=>e = .returned (.tuple #[.agg #[.int .u8 0,.bool false,.int .i64 0,.int .i64 0],.int .i64 1])∧Ext w w':=by
 have HP:=Lib.hid hP
 clear hP
 go_enter Tryz.func193,Tryz.ntmps193
 go_wp2_with (go_at_call 197;(((with_reducible refine (zah l [111,110] _).mono ?_);rintro e w1 ⟨rfl,rfl⟩;rw [HP.out])))
 exact bodyPost_ret (v := .tuple #[.agg #[.int .u8 0,.bool false,.int .i64 0,.int .i64 0],.int .i64 1]) (by simp [results,Tryz.f193,go_sem]) rfl ⟨rfl,by repeat (first | exact Ext.refl _ | assumption | refine Ext.alloc ?_ _ | refine Ext.drew ?_ | refine Ext.set ?_ (by simp) _ | refine Ext.trans ?_ (by assumption))⟩
set_option maxHeartbeats 2000000 in
theorem zkM (l:List UInt8) (c:UInt8) (hE:(l==[121,111])=false) (hP:[111,110].isPrefixOf l=false) (he:l.isEmpty=false) (hl:0<l.length) (h0:∀h,(⟨l.toArray⟩:ByteArray)[0]'h=c) (h1:((c.toNat:Int) != 107)=true) (h2:((c.toNat:Int) != 112)=true) (w:World) :
  Calls Tryz.prog 193 #[.string ⟨l.toArray⟩] w fun e w'=>e = .returned (.tuple #[.agg #[.int .u8 0,.bool false,.int .i64 0,.int .i64 0],.int .i64 1])∧Ext w w':=by
 have HP:=Lib.hid hP
 have q0:(0:Int)<(l.length:Int):=by omega
 clear hP
 go_enter Tryz.func193,Tryz.ntmps193
 go_wp2_with (go_at_call 197;(((with_reducible refine (zah l [111,110] _).mono ?_);rintro e w1 ⟨rfl,rfl⟩;rw [HP.out])))
 exact bodyPost_ret (v := .tuple #[.agg #[.int .u8 0,.bool false,.int .i64 0,.int .i64 0],.int .i64 1]) (by simp [results,Tryz.f193,go_sem]) rfl ⟨rfl,by repeat (first | exact Ext.refl _ | assumption | refine Ext.alloc ?_ _ | refine Ext.drew ?_ | refine Ext.set ?_ (by simp) _ | refine Ext.trans ?_ (by assumption))⟩
set_option maxHeartbeats 4000000 in
theorem zh1 (l R:List UInt8) (N:Int) (hl:l.length≤100000) (hR:R.length+1=l.length) (hE:(l==[121,111])=false) (hP:[111,110].isPrefixOf l=false)
  (h0:∀h,(⟨l.toArray⟩:ByteArray)[0]'h=107) (hx:(⟨l.toArray⟩:ByteArray).extract 1 l.length=⟨R.toArray⟩) (hn:(numR R).1=N) (he:R.isEmpty=true) (w:World) (hg:Glob w) :
  Calls Tryz.prog 193 #[.string ⟨l.toArray⟩] w fun e w'=>e = .returned (.tuple #[.agg #[.int .u8 1,.bool false,.int .i64 0,.int .i64 0],.int .i64 (min (max N 1) 201)])∧Ext w w':=by
 have HG:=Lib.hid hg
 have HN:=Lib.hid hn
 have HP:=Lib.hid hP
 have q0:(0:Int)<(l.length:Int):=by omega
 have q2:(1:Int)≤(l.length:Int):=by omega
 have l0:l.isEmpty=false:=by cases l with
  | nil=>simp at hR
  | cons _ _=>rfl
 have m1:∀(ts:Array TypeId) (t:TypeId) (W:World),(Builtin.max_ ts t #[.int .i64 N,.int .i64 1]).run Tryz.prog W = .ok (.int .i64 (max N 1)) W:=fun ts t W=>zal ts t N 1
 have m2:∀(ts:Array TypeId) (t:TypeId) (W:World),(Builtin.min_ ts t #[.int .i64 (max N 1),.int .i64 201]).run Tryz.prog W = .ok (.int .i64 (min (max N 1) 201)) W:=fun ts t W=>zbW ts t _ _
 clear hg hn hP
 go_enter Tryz.func193,Tryz.ntmps193
 go_upto_region 13 with (first
  | (go_at_call 197;(((with_reducible refine (zah l [111,110] _).mono ?_);rintro e w1 ⟨rfl,rfl⟩;rw [HP.out])))
  | (go_at_call 198;(((with_reducible refine (zad R (by omega) _ (HG.out.ext (by repeat (first | exact Ext.refl _ | assumption | refine Ext.alloc ?_ _ | refine Ext.drew ?_ | refine Ext.set ?_ (by simp) _ | refine Ext.trans ?_ (by assumption))))).mono ?_);rintro e w2 ⟨rfl,hq2⟩;rw [HN.out];have HB2:=Lib.hid ((Bx.new w _ _ _ _ _).ext hq2);have HX2:=Lib.hid (Ext.trans ((Ext.refl w).alloc _) hq2);obtain ⟨⟨b0,b1,b2,b3⟩,f0,f1,f2,f3⟩:=HB2.out))))
 have hB9:Bx (w2.setCell ⟨w.heap.size,0,none⟩ (.int .u8 1)) w.heap.size (.int .u8 1) (.bool false) (.int .i64 0) (.int .i64 0):=HB2.out.set0 _
 have hX9:Ext w (w2.setCell ⟨w.heap.size,0,none⟩ (.int .u8 1)):=HX2.out.set (by simp) _
 obtain ⟨W9,hW9⟩:∃W9,w2.setCell ⟨w.heap.size,0,none⟩ (.int .u8 1)=W9:=⟨_,rfl⟩
 rw [hW9] at hB9 hX9 ⊢
 clear hW9 b0 b1 b2 b3 f0 f1 f2 f3
 have HX9:=Lib.hid hX9
 have HB9:=Lib.hid hB9
 obtain ⟨⟨b0,b1,b2,b3⟩,f0,f1,f2,f3⟩:=hB9
 clear hX9
 go_wp2
 obtain ⟨WF,hWF⟩:∃WF,(((W9.setCell ⟨w.heap.size,0,none⟩ (.int .u8 1)).setCell ⟨w.heap.size,1,none⟩ (.bool false)).setCell ⟨w.heap.size,2,none⟩ (.int .i64 0)).setCell ⟨w.heap.size,3,none⟩ (.int .i64 0)=WF:=⟨_,rfl⟩
 have HX:=Lib.hid (show Ext w WF by rw [←hWF];exact (((HX9.out.set (by simp) _).set (by simp) _).set (by simp) _).set (by simp) _)
 obtain ⟨y0,y1,y2,y3⟩:=zc1 HB9.out.has hWF
 rw [hWF]
 exact bodyPost_ret (v := .tuple #[.agg #[.int .u8 1,.bool false,.int .i64 0,.int .i64 0],.int .i64 (min (max N 1) 201)]) (by simp [results,Tryz.f193,go_sem,y0,y1,y2,y3]) rfl ⟨rfl,HX.out⟩
set_option maxHeartbeats 4000000 in
theorem zhj (l R:List UInt8) (N:Int) (hl:l.length≤100000) (hR:R.length+1=l.length) (hE:(l==[121,111])=false) (hP:[111,110].isPrefixOf l=false)
  (h0:∀h,(⟨l.toArray⟩:ByteArray)[0]'h=107) (hx:(⟨l.toArray⟩:ByteArray).extract 1 l.length=⟨R.toArray⟩) (hn:(numR R).1=N) (he:R.isEmpty=false) (h5:0≤N) (w:World) (hg:Glob w) :
  Calls Tryz.prog 193 #[.string ⟨l.toArray⟩] w fun e w'=>e = .returned (.tuple #[.agg #[.int .u8 1,.bool false,.int .i64 0,.int .i64 0],.int .i64 (min (max N 1) 201)])∧Ext w w':=by
 have HG:=Lib.hid hg
 have HN:=Lib.hid hn
 have HP:=Lib.hid hP
 have q0:(0:Int)<(l.length:Int):=by omega
 have q2:(1:Int)≤(l.length:Int):=by omega
 have l0:l.isEmpty=false:=by cases l with
  | nil=>simp at hR
  | cons _ _=>rfl
 have m1:∀(ts:Array TypeId) (t:TypeId) (W:World),(Builtin.max_ ts t #[.int .i64 N,.int .i64 1]).run Tryz.prog W = .ok (.int .i64 (max N 1)) W:=fun ts t W=>zal ts t N 1
 have m2:∀(ts:Array TypeId) (t:TypeId) (W:World),(Builtin.min_ ts t #[.int .i64 (max N 1),.int .i64 201]).run Tryz.prog W = .ok (.int .i64 (min (max N 1) 201)) W:=fun ts t W=>zbW ts t _ _
 clear hg hn hP
 go_enter Tryz.func193,Tryz.ntmps193
 go_upto_region 13 with (first
  | (go_at_call 197;(((with_reducible refine (zah l [111,110] _).mono ?_);rintro e w1 ⟨rfl,rfl⟩;rw [HP.out])))
  | (go_at_call 198;(((with_reducible refine (zad R (by omega) _ (HG.out.ext (by repeat (first | exact Ext.refl _ | assumption | refine Ext.alloc ?_ _ | refine Ext.drew ?_ | refine Ext.set ?_ (by simp) _ | refine Ext.trans ?_ (by assumption))))).mono ?_);rintro e w2 ⟨rfl,hq2⟩;rw [HN.out];have HB2:=Lib.hid ((Bx.new w _ _ _ _ _).ext hq2);have HX2:=Lib.hid (Ext.trans ((Ext.refl w).alloc _) hq2);obtain ⟨⟨b0,b1,b2,b3⟩,f0,f1,f2,f3⟩:=HB2.out))))
 have hB9:Bx (w2.setCell ⟨w.heap.size,0,none⟩ (.int .u8 1)) w.heap.size (.int .u8 1) (.bool false) (.int .i64 0) (.int .i64 0):=HB2.out.set0 _
 have hX9:Ext w (w2.setCell ⟨w.heap.size,0,none⟩ (.int .u8 1)):=HX2.out.set (by simp) _
 obtain ⟨W9,hW9⟩:∃W9,w2.setCell ⟨w.heap.size,0,none⟩ (.int .u8 1)=W9:=⟨_,rfl⟩
 rw [hW9] at hB9 hX9 ⊢
 clear hW9 b0 b1 b2 b3 f0 f1 f2 f3
 have HX9:=Lib.hid hX9
 have HB9:=Lib.hid hB9
 obtain ⟨⟨b0,b1,b2,b3⟩,f0,f1,f2,f3⟩:=hB9
 clear hX9
 go_wp2
 obtain ⟨WF,hWF⟩:∃WF,(((W9.setCell ⟨w.heap.size,0,none⟩ (.int .u8 1)).setCell ⟨w.heap.size,1,none⟩ (.bool false)).setCell ⟨w.heap.size,2,none⟩ (.int .i64 0)).setCell ⟨w.heap.size,3,none⟩ (.int .i64 0)=WF:=⟨_,rfl⟩
 have HX:=Lib.hid (show Ext w WF by rw [←hWF];exact (((HX9.out.set (by simp) _).set (by simp) _).set (by simp) _).set (by simp) _)
 obtain ⟨y0,y1,y2,y3⟩:=zc1 HB9.out.has hWF
 rw [hWF]
 exact bodyPost_ret (v := .tuple #[.agg #[.int .u8 1,.bool false,.int .i64 0,.int .i64 0],.int .i64 (min (max N 1) 201)]) (by simp [results,Tryz.f193,go_sem,y0,y1,y2,y3]) rfl ⟨rfl,HX.out⟩
set_option maxHeartbeats 4000000 in
theorem zhS (l R:List UInt8) (N:Int) (hl:l.length≤100000) (hR:R.length+1=l.length) (hE:(l==[121,111])=false) (hP:[111,110].isPrefixOf l=false)
  (h0:∀h,(⟨l.toArray⟩:ByteArray)[0]'h=112) (hx:(⟨l.toArray⟩:ByteArray).extract 1 l.length=⟨R.toArray⟩) (hn:(numR R).1=N) (he:R.isEmpty=true) (w:World) (hg:Glob w) :
  Calls Tryz.prog 193 #[.string ⟨l.toArray⟩] w fun e w'=>e = .returned (.tuple #[.agg #[.int .u8 1,.bool true,.int .i64 0,.int .i64 0],.int .i64 (min (max N 1) 201)])∧Ext w w':=by
 have HG:=Lib.hid hg
 have HN:=Lib.hid hn
 have HP:=Lib.hid hP
 have q0:(0:Int)<(l.length:Int):=by omega
 have q2:(1:Int)≤(l.length:Int):=by omega
 have l0:l.isEmpty=false:=by cases l with
  | nil=>simp at hR
  | cons _ _=>rfl
 have m1:∀(ts:Array TypeId) (t:TypeId) (W:World),(Builtin.max_ ts t #[.int .i64 N,.int .i64 1]).run Tryz.prog W = .ok (.int .i64 (max N 1)) W:=fun ts t W=>zal ts t N 1
 have m2:∀(ts:Array TypeId) (t:TypeId) (W:World),(Builtin.min_ ts t #[.int .i64 (max N 1),.int .i64 201]).run Tryz.prog W = .ok (.int .i64 (min (max N 1) 201)) W:=fun ts t W=>zbW ts t _ _
 clear hg hn hP
 go_enter Tryz.func193,Tryz.ntmps193
 go_upto_region 13 with (first
  | (go_at_call 197;(((with_reducible refine (zah l [111,110] _).mono ?_);rintro e w1 ⟨rfl,rfl⟩;rw [HP.out])))
  | (go_at_call 198;(((with_reducible refine (zad R (by omega) _ (HG.out.ext (by repeat (first | exact Ext.refl _ | assumption | refine Ext.alloc ?_ _ | refine Ext.drew ?_ | refine Ext.set ?_ (by simp) _ | refine Ext.trans ?_ (by assumption))))).mono ?_);rintro e w2 ⟨rfl,hq2⟩;rw [HN.out];have HB2:=Lib.hid ((Bx.new w _ _ _ _ _).ext hq2);have HX2:=Lib.hid (Ext.trans ((Ext.refl w).alloc _) hq2);obtain ⟨⟨b0,b1,b2,b3⟩,f0,f1,f2,f3⟩:=HB2.out))))
 have hB9:Bx (w2.setCell ⟨w.heap.size,0,none⟩ (.int .u8 1)) w.heap.size (.int .u8 1) (.bool true) (.int .i64 0) (.int .i64 0):=HB2.out.set0 _
 have hX9:Ext w (w2.setCell ⟨w.heap.size,0,none⟩ (.int .u8 1)):=HX2.out.set (by simp) _
 obtain ⟨W9,hW9⟩:∃W9,w2.setCell ⟨w.heap.size,0,none⟩ (.int .u8 1)=W9:=⟨_,rfl⟩
 rw [hW9] at hB9 hX9 ⊢
 clear hW9 b0 b1 b2 b3 f0 f1 f2 f3
 have HX9:=Lib.hid hX9
 have HB9:=Lib.hid hB9
 obtain ⟨⟨b0,b1,b2,b3⟩,f0,f1,f2,f3⟩:=hB9
 clear hX9
 go_wp2
 obtain ⟨WF,hWF⟩:∃WF,(((W9.setCell ⟨w.heap.size,0,none⟩ (.int .u8 1)).setCell ⟨w.heap.size,1,none⟩ (.bool true)).setCell ⟨w.heap.size,2,none⟩ (.int .i64 0)).setCell ⟨w.heap.size,3,none⟩ (.int .i64 0)=WF:=⟨_,rfl⟩
 have HX:=Lib.hid (show Ext w WF by rw [←hWF];exact (((HX9.out.set (by simp) _).set (by simp) _).set (by simp) _).set (by simp) _)
 obtain ⟨y0,y1,y2,y3⟩:=zc1 HB9.out.has hWF
 rw [hWF]
 exact bodyPost_ret (v := .tuple #[.agg #[.int .u8 1,.bool true,.int .i64 0,.int .i64 0],.int .i64 (min (max N 1) 201)]) (by simp [results,Tryz.f193,go_sem,y0,y1,y2,y3]) rfl ⟨rfl,HX.out⟩
set_option maxHeartbeats 4000000 in
theorem zib (l R:List UInt8) (N:Int) (hl:l.length≤100000) (hR:R.length+1=l.length) (hE:(l==[121,111])=false) (hP:[111,110].isPrefixOf l=false)
  (h0:∀h,(⟨l.toArray⟩:ByteArray)[0]'h=112) (hx:(⟨l.toArray⟩:ByteArray).extract 1 l.length=⟨R.toArray⟩) (hn:(numR R).1=N) (he:R.isEmpty=false) (h5:0≤N) (w:World) (hg:Glob w) :
  Calls Tryz.prog 193 #[.string ⟨l.toArray⟩] w fun e w'=>e = .returned (.tuple #[.agg #[.int .u8 1,.bool true,.int .i64 0,.int .i64 0],.int .i64 (min (max N 1) 201)])∧Ext w w':=by
 have HG:=Lib.hid hg
 have HN:=Lib.hid hn
 have HP:=Lib.hid hP
 have q0:(0:Int)<(l.length:Int):=by omega
 have q2:(1:Int)≤(l.length:Int):=by omega
 have l0:l.isEmpty=false:=by cases l with
  | nil=>simp at hR
  | cons _ _=>rfl
 have m1:∀(ts:Array TypeId) (t:TypeId) (W:World),(Builtin.max_ ts t #[.int .i64 N,.int .i64 1]).run Tryz.prog W = .ok (.int .i64 (max N 1)) W:=fun ts t W=>zal ts t N 1
 have m2:∀(ts:Array TypeId) (t:TypeId) (W:World),(Builtin.min_ ts t #[.int .i64 (max N 1),.int .i64 201]).run Tryz.prog W = .ok (.int .i64 (min (max N 1) 201)) W:=fun ts t W=>zbW ts t _ _
 clear hg hn hP
 go_enter Tryz.func193,Tryz.ntmps193
 go_upto_region 13 with (first
  | (go_at_call 197;(((with_reducible refine (zah l [111,110] _).mono ?_);rintro e w1 ⟨rfl,rfl⟩;rw [HP.out])))
  | (go_at_call 198;(((with_reducible refine (zad R (by omega) _ (HG.out.ext (by repeat (first | exact Ext.refl _ | assumption | refine Ext.alloc ?_ _ | refine Ext.drew ?_ | refine Ext.set ?_ (by simp) _ | refine Ext.trans ?_ (by assumption))))).mono ?_);rintro e w2 ⟨rfl,hq2⟩;rw [HN.out];have HB2:=Lib.hid ((Bx.new w _ _ _ _ _).ext hq2);have HX2:=Lib.hid (Ext.trans ((Ext.refl w).alloc _) hq2);obtain ⟨⟨b0,b1,b2,b3⟩,f0,f1,f2,f3⟩:=HB2.out))))
 have hB9:Bx (w2.setCell ⟨w.heap.size,0,none⟩ (.int .u8 1)) w.heap.size (.int .u8 1) (.bool true) (.int .i64 0) (.int .i64 0):=HB2.out.set0 _
 have hX9:Ext w (w2.setCell ⟨w.heap.size,0,none⟩ (.int .u8 1)):=HX2.out.set (by simp) _
 obtain ⟨W9,hW9⟩:∃W9,w2.setCell ⟨w.heap.size,0,none⟩ (.int .u8 1)=W9:=⟨_,rfl⟩
 rw [hW9] at hB9 hX9 ⊢
 clear hW9 b0 b1 b2 b3 f0 f1 f2 f3
 have HX9:=Lib.hid hX9
 have HB9:=Lib.hid hB9
 obtain ⟨⟨b0,b1,b2,b3⟩,f0,f1,f2,f3⟩:=hB9
 clear hX9
 go_wp2
 obtain ⟨WF,hWF⟩:∃WF,(((W9.setCell ⟨w.heap.size,0,none⟩ (.int .u8 1)).setCell ⟨w.heap.size,1,none⟩ (.bool true)).setCell ⟨w.heap.size,2,none⟩ (.int .i64 0)).setCell ⟨w.heap.size,3,none⟩ (.int .i64 0)=WF:=⟨_,rfl⟩
 have HX:=Lib.hid (show Ext w WF by rw [←hWF];exact (((HX9.out.set (by simp) _).set (by simp) _).set (by simp) _).set (by simp) _)
 obtain ⟨y0,y1,y2,y3⟩:=zc1 HB9.out.has hWF
 rw [hWF]
 exact bodyPost_ret (v := .tuple #[.agg #[.int .u8 1,.bool true,.int .i64 0,.int .i64 0],.int .i64 (min (max N 1) 201)]) (by simp [results,Tryz.f193,go_sem,y0,y1,y2,y3]) rfl ⟨rfl,HX.out⟩
end Go.Proofs.YtkneghkbgingdaaGreatDoor
/- What read returns of whatever word. -/
namespace Go.Proofs.YtkneghkbgingdaaGreatDoor
set_option maxRecDepth 100000
open Go.RowKit
def ReadR (x:St×Int) (w:World) (e:Ending) (w':World):Prop:=e = .returned (.tuple #[.agg #[.int .u8 x.1.k,.bool x.1.p,.int .i64 x.1.a,.int .i64 x.1.b],.int .i64 x.2])∧Ext w w'
theorem zas {l:List UInt8} {x:St×Int} {w:World} {k:Int} {p:Bool} {a b n:Int} (h:Calls Tryz.prog 193 #[.string ⟨l.toArray⟩] w fun e w'=>e = .returned (.tuple #[.agg #[.int .u8 k,.bool p,.int .i64 a,.int .i64 b],.int .i64 n])∧Ext w w') (hx:x=(⟨k,p,a,b⟩,n)) :
  Calls Tryz.prog 193 #[.string ⟨l.toArray⟩] w (ReadR x w):=by
 subst hx
 exact h
theorem zgC {l:List UInt8} (h:¬0≤(numR l).1):(numR l).1 = -1:=by
 unfold numR at h ⊢
 split
 ·rfl
 ·rename_i h1
  rw [if_neg h1] at h
  exact absurd (Int.natCast_nonneg _) h
theorem zcZ {d:UInt8} (h1:d≠102) (h2:d≠108) (h3:d≠109) (h4:d≠120) (h5:d≠121) (h6:d≠115) (h7:d≠111) (h8:d≠63):Lib.indexByte letters d = -1∧kindL d=3:=by
 constructor
 ·simp [letters,Lib.indexByte,Ne.symm h1,Ne.symm h2,Ne.symm h3,Ne.symm h4,Ne.symm h5,Ne.symm h6,Ne.symm h7,Ne.symm h8]
 ·simp [kindL,h1,h2,h3,h4,h5,h6,h7,h8]
theorem zjg (d:UInt8) (r:List UInt8) (hl:(107::d::r:List UInt8).length≤100000) (hn:(numR (d::r)).1 = -1) (w:World) (hg:Glob w) :
  Calls Tryz.prog 193 #[.string ⟨(107::d::r:List UInt8).toArray⟩] w (ReadR (readK false d r,1) w):=by
 have hE:((107::d::r:List UInt8)==[121,111])=false:=by simp
 have hP:[111,110].isPrefixOf (107::d::r:List UInt8)=false:=by simp [List.isPrefixOf]
 have h0:=zam (107::d::r) 0
 have hx:=zag (107::d::r) 1 _ (Nat.le_refl _)
 have h1:=zam (d::r) 0
 have hx2:=zag (d::r) 1 _ (Nat.le_refl _)
 simp only [List.getD_cons_zero,List.drop_succ_cons,List.drop_zero] at h0 h1 hx hx2
 by_cases h09:d=102
 ·subst h09
  exact zas (zfC (107::102::r) (102::r) r 102 hl (by simp) (by simp) hE hP h0 hx h1 hx2 hn rfl w hg) rfl
 by_cases h19:d=108
 ·subst h19
  exact zas (zfr (107::108::r) (108::r) r 108 hl (by simp) (by simp) hE hP h0 hx h1 hx2 hn rfl w hg) rfl
 by_cases h29:d=109
 ·subst h29
  exact zas (zfv (107::109::r) (109::r) r 109 hl (by simp) (by simp) hE hP h0 hx h1 hx2 hn rfl w hg) rfl
 by_cases h39:d=120
 ·subst h39
  exact zas (zfV (107::120::r) (120::r) r 120 hl (by simp) (by simp) hE hP h0 hx h1 hx2 hn rfl w hg) rfl
 by_cases h49:d=121
 ·subst h49
  exact zas (zfy (107::121::r) (121::r) r 121 hl (by simp) (by simp) hE hP h0 hx h1 hx2 hn rfl w hg) rfl
 by_cases h59:d=115
 ·subst h59
  exact zas (zfX (107::115::r) (115::r) r 115 hl (by simp) (by simp) hE hP h0 hx h1 hx2 hn rfl w hg) rfl
 by_cases h69:d=111
 ·subst h69
  exact zas (zfP (107::111::r) (111::r) r 111 hl (by simp) (by simp) hE hP h0 hx h1 hx2 hn rfl w hg) rfl
 by_cases h79:d=63
 ·subst h79
  exact zas (zfw (107::63::r) (63::r) r 63 hl (by simp) (by simp) hE hP h0 hx h1 hx2 hn rfl w hg) rfl
 obtain ⟨hi,hk⟩:=zcZ h09 h19 h29 h39 h49 h59 h69 h79
 refine zas (zfS (107::d::r) (d::r) r d hl (by simp) (by simp) hE hP h0 hx h1 hx2 hn hi w hg) ?_
 unfold readK
 rw [hk]
 rfl
theorem zf0 (R:List UInt8) (hl:(107::R:List UInt8).length≤100000) (w:World) (hg:Glob w) :
  Calls Tryz.prog 193 #[.string ⟨(107::R:List UInt8).toArray⟩] w (ReadR (readW (107::R)) w):=by
 have hE:((107::R:List UInt8)==[121,111])=false:=by simp
 have hP:[111,110].isPrefixOf (107::R:List UInt8)=false:=by simp [List.isPrefixOf]
 have h0:=zam (107::R) 0
 have hx:=zag (107::R) 1 _ (Nat.le_refl _)
 simp only [List.getD_cons_zero,List.drop_succ_cons,List.drop_zero] at h0 hx
 cases R with
 | nil=>exact zas (zh1 [107] [] (-1) hl rfl hE hP h0 hx rfl rfl w hg) rfl
 | cons d r =>
  by_cases h5:0≤(numR (d::r)).1
  ·refine zas (zhj (107::d::r) (d::r) (numR (d::r)).1 hl rfl hE hP h0 hx rfl rfl h5 w hg) ?_
   simp [readW,h5]
  ·have h6:=zjg d r hl (zgC h5) w hg
   have h7:readW (107::d::r)=(readK false d r,1):=by simp [readW,h5]
   rw [h7]
   exact h6
theorem zii (d:UInt8) (r:List UInt8) (hl:(112::d::r:List UInt8).length≤100000) (hn:(numR (d::r)).1 = -1) (w:World) (hg:Glob w) :
  Calls Tryz.prog 193 #[.string ⟨(112::d::r:List UInt8).toArray⟩] w (ReadR (readK true d r,1) w):=by
 have hE:((112::d::r:List UInt8)==[121,111])=false:=by simp
 have hP:[111,110].isPrefixOf (112::d::r:List UInt8)=false:=by simp [List.isPrefixOf]
 have h0:=zam (112::d::r) 0
 have hx:=zag (112::d::r) 1 _ (Nat.le_refl _)
 have h1:=zam (d::r) 0
 have hx2:=zag (d::r) 1 _ (Nat.le_refl _)
 simp only [List.getD_cons_zero,List.drop_succ_cons,List.drop_zero] at h0 h1 hx hx2
 by_cases h09:d=102
 ·subst h09
  exact zas (zfI (112::102::r) (102::r) r 102 hl (by simp) (by simp) hE hP h0 hx h1 hx2 hn rfl w hg) rfl
 by_cases h19:d=108
 ·subst h19
  exact zas (zft (112::108::r) (108::r) r 108 hl (by simp) (by simp) hE hP h0 hx h1 hx2 hn rfl w hg) rfl
 by_cases h29:d=109
 ·subst h29
  exact zas (zfU (112::109::r) (109::r) r 109 hl (by simp) (by simp) hE hP h0 hx h1 hx2 hn rfl w hg) rfl
 by_cases h39:d=120
 ·subst h39
  exact zas (zfs (112::120::r) (120::r) r 120 hl (by simp) (by simp) hE hP h0 hx h1 hx2 hn rfl w hg) rfl
 by_cases h49:d=121
 ·subst h49
  exact zas (zgd (112::121::r) (121::r) r 121 hl (by simp) (by simp) hE hP h0 hx h1 hx2 hn rfl w hg) rfl
 by_cases h59:d=115
 ·subst h59
  exact zas (zfx (112::115::r) (115::r) r 115 hl (by simp) (by simp) hE hP h0 hx h1 hx2 hn rfl w hg) rfl
 by_cases h69:d=111
 ·subst h69
  exact zas (zfD (112::111::r) (111::r) r 111 hl (by simp) (by simp) hE hP h0 hx h1 hx2 hn rfl w hg) rfl
 by_cases h79:d=63
 ·subst h79
  exact zas (zfM (112::63::r) (63::r) r 63 hl (by simp) (by simp) hE hP h0 hx h1 hx2 hn rfl w hg) rfl
 obtain ⟨hi,hk⟩:=zcZ h09 h19 h29 h39 h49 h59 h69 h79
 refine zas (zfN (112::d::r) (d::r) r d hl (by simp) (by simp) hE hP h0 hx h1 hx2 hn hi w hg) ?_
 unfold readK
 rw [hk]
 rfl
theorem zfR (R:List UInt8) (hl:(112::R:List UInt8).length≤100000) (w:World) (hg:Glob w) :
  Calls Tryz.prog 193 #[.string ⟨(112::R:List UInt8).toArray⟩] w (ReadR (readW (112::R)) w):=by
 have hE:((112::R:List UInt8)==[121,111])=false:=by simp
 have hP:[111,110].isPrefixOf (112::R:List UInt8)=false:=by simp [List.isPrefixOf]
 have h0:=zam (112::R) 0
 have hx:=zag (112::R) 1 _ (Nat.le_refl _)
 simp only [List.getD_cons_zero,List.drop_succ_cons,List.drop_zero] at h0 hx
 cases R with
 | nil=>exact zas (zhS [112] [] (-1) hl rfl hE hP h0 hx rfl rfl w hg) rfl
 | cons d r =>
  by_cases h5:0≤(numR (d::r)).1
  ·refine zas (zib (112::d::r) (d::r) (numR (d::r)).1 hl rfl hE hP h0 hx rfl rfl h5 w hg) ?_
   simp [readW,h5]
  ·have h6:=zii d r hl (zgC h5) w hg
   have h7:readW (112::d::r)=(readK true d r,1):=by simp [readW,h5]
   rw [h7]
   exact h6
theorem zgV (l:List UInt8) (hl:l.length≤100000) (w:World) (hg:Glob w):Calls Tryz.prog 193 #[.string ⟨l.toArray⟩] w (ReadR (readW l) w):=by
 cases l with
 | nil=>exact zas (zl6 [] rfl rfl rfl w) rfl
 | cons c R =>
  by_cases h1:c=107
  ·subst h1;exact zf0 R hl w hg
  by_cases h2:c=112
  ·subst h2;exact zfR R hl w hg
  by_cases hy:c=121∧R=[111]
  ·obtain ⟨rfl,rfl⟩:=hy
   exact zas (zlV [121,111] rfl w) rfl
  have hE:((c::R:List UInt8)==[121,111])=false:=by
   rw [beq_eq_false_iff_ne]
   intro e
   injection e with e1 e2
   exact hy ⟨e1,e2⟩
  by_cases ho:c=111∧R.head?=some 110
  ·obtain ⟨rfl,h3⟩:=ho
   cases R with
   | nil=>cases h3
   | cons x t =>
    obtain rfl:x=110:=by simpa using h3
    have hx:=zag (111::110::t) 2 _ (Nat.le_refl _)
    simp only [List.drop_succ_cons,List.drop_zero] at hx
    refine zas (zl4 (111::110::t) t hl hE (by simp [List.isPrefixOf]) (by simp) (by simp;omega) hx w hg) ?_
    simp [readW]
  ·have hP:[111,110].isPrefixOf (c::R:List UInt8)=false:=by
    rw [Bool.eq_false_iff]
    intro e
    cases R with
    | nil=>simp [List.isPrefixOf] at e
    | cons x t =>
     simp [List.isPrefixOf] at e
     exact ho ⟨e.1.symm,by simp [e.2]⟩
   have h0:=zam (c::R) 0
   simp only [List.getD_cons_zero] at h0
   refine zas (zkM (c::R) c hE hP rfl (by simp) h0 ?_ ?_ w) ?_
   ·rw [bne_iff_ne]
    intro e
    apply h1
    apply UInt8.toNat_inj.1
    have:c.toNat=107:=by omega
    rw [this];rfl
   ·rw [bne_iff_ne]
    intro e
    apply h2
    apply UInt8.toNat_inj.1
    have:c.toNat=112:=by omega
    rw [this];rfl
   ·unfold readW
    simp only [hy,ho,h1,h2,if_false,or_self,not_false_eq_true,if_true]
    rfl
end Go.Proofs.YtkneghkbgingdaaGreatDoor
/- Slices that a call makes at once,and copies into them;elements of any size. -/
namespace Go.Proofs.YtkneghkbgingdaaGreatDoor
set_option maxRecDepth 100000
open Go.RowKit Go.ChangeShapes Go.WideShapes Go.Joins
section
variable {P:Program} {ops:Array Oper} {rest:List Oper} {o:Oper} {a:Act} {K:Act→World→Prop} {Q:Exit→Act→World→Prop} {E:Prop} {w wx:World}
theorem zfB (T e:TypeId) (z:Value) (size bytes:Nat) {l:Operand} (n B:Nat) (hop:o.op = .makeSlice T l l) (ht:P.underlying T=some (.slice e)) (hinfo:(P.info? e).map (fun i=>(i.zero,i.size,i.bytes))=some (some z,size,bytes))
  (hl:a.eval l = .int .i64 (n:Int)) (hn:n≤1000000) (hby:bytes≤1000) (hB:B≤wx.heap.size)
  (h:∀w1,w1.ownsRow B e size (.slice (some ⟨wx.heap.size,0,none⟩) n n) n (madeCells z.cells (n*size)).toList→Ext wx w1→wx.heap.size<w1.heap.size→K (a.put o.dst (.slice (some ⟨wx.heap.size,0,none⟩) n n)) w1):o.wp P a wx K Q:=by
 obtain ⟨i0,hi,hz0,hz1,hz2⟩:=info_parts hinfo
 obtain ⟨w',hrun,r1,r2⟩:=run_make_full (P:=P) wx B T e i0 z size ht hi hz0 hz1 .i64 .i64 n (by rw [hz2];have:=Nat.mul_le_mul hby hn;omega) (by unfold maxLen;omega) hB
 unfold Oper.wp
 simp [execOp,hop,hl,hrun,Result.andThen]
 refine h w' r1 (But.ext_none r2) ?_
 obtain ⟨_,h2⟩:=zbd r1 wx.heap.size (by simp [Value.ownBlock])
 exact h2
theorem zbF (T e:TypeId) (z:Value) (size bytes:Nat) {l:Operand} (n B:Nat) (hgd:o.guard=none) (hop:o.op = .makeSlice T l l) (ht:P.underlying T=some (.slice e)) (hinfo:(P.info? e).map (fun i=>(i.zero,i.size,i.bytes))=some (some z,size,bytes))
  (hl:a.eval l = .int .i64 (n:Int)) (hn:n≤1000000) (hby:bytes≤1000) (hB:B≤wx.heap.size)
  (h:∀w1,Hid (w1.ownsRow B e size (.slice (some ⟨wx.heap.size,0,none⟩) n n) n (madeCells z.cells (n*size)).toList)→Hid (Ext wx w1)→wx.heap.size<w1.heap.size→wpList P ops Q rest (a.put o.dst (.slice (some ⟨wx.heap.size,0,none⟩) n n)) w1):wpList P ops Q (o::rest) a wx :=
 wpList_plain hgd fun _ hK=>zfB T e z size bytes n B hop ht hinfo hl hn hby hB fun w' h1 h2 h3=>hK _ _ (h w' h1 h2 h3)
theorem ze5 (g:Nat) (t:TypeId):∀(vs:List Value) (off:Nat) (w:World) (cur:Array Value),w.heap[g]?=some (.cells cur t (0,0))→∃cur',(w.setCells g off vs).heap[g]?=some (.cells cur' t (0,0))∧cur'.size=cur.size:=by
 intro vs
 induction vs with
 | nil=>intro off w cur h;exact ⟨cur,h,rfl⟩
 | cons v r ih =>
  intro off w cur h
  have h1:=heap_setCell_same w g off cur t v h
  obtain ⟨cur',h2,h3⟩:=ih (off+1) _ _ h1
  exact ⟨cur',h2,by rw [h3];simp⟩
theorem ze9 (g:Nat):∀(vs:List Value) (off:Nat) (w:World),But (some g) w (w.setCells g off vs):=by
 intro vs
 induction vs with
 | nil=>intro off w;exact But.refl _ _
 | cons v r ih =>
  intro off w
  exact ((But.refl (some g) w).own (p:=⟨g,off,none⟩) rfl v).trans (ih (off+1) _)
end
end Go.Proofs.YtkneghkbgingdaaGreatDoor
/- A copy of some elements into a part of a row. -/
namespace Go.Proofs.YtkneghkbgingdaaGreatDoor
set_option maxRecDepth 100000
open Go.RowKit Go.ChangeShapes Go.WideShapes Go.Joins
section
variable {P:Program}
theorem zdE (w:World) (dT sT ty elem:TypeId) (size m:Nat) (g o:Nat) (ad:Addr) (dn dc sn sc:Nat) (cs:List Value) (hu:P.underlying dT=some (.slice elem)) (hs:(P.info? elem).map (·.size)=some size) (hm:m=sn.min dn) (hn:cs.length=m*size)
  (hsrc:∀j v,cs[j]?=some v→w.cell? (ad.add j)=some v)
  (hc:∀j,j<cs.length→(w.cell? ⟨g,o+j,none⟩).isSome=true) (hf:∀j,j<cs.length→w.frozen? ⟨g,o+j,none⟩=false) (h1:∀v∈cs,v.oneCell'=true) :
  (Builtin.copy_ #[dT,sT] ty #[.slice (some ⟨g,o,none⟩) dn dc,.slice (some ad) sn sc]).run P w = .ok (goInt m) (w.setCells g o cs):=by
 cases hq:P.info? elem with
 | none=>simp [hq] at hs
 | some i =>
  have hi:i.size=size:=by simpa [hq] using hs
  have hl:=run_loadCells_list (P:=P) w ad cs hsrc
  have hst:=run_storeCells_cells (P:=P) g o cs 0 w (by simpa using hc) (by simpa using hf) h1
  rw [hn] at hl
  subst hm
  simp [Builtin.copy_,run_underlying hu,Builtin.lenOf,Builtin.firstCells,sizeOf,typeInfo,hq,hi,hl,hst]
end
end Go.Proofs.YtkneghkbgingdaaGreatDoor
/- A copy into the middle of a row that the call has made. -/
namespace Go.Proofs.YtkneghkbgingdaaGreatDoor
set_option maxRecDepth 100000
open Go.RowKit Go.ChangeShapes Go.WideShapes Go.Joins
section
variable {P:Program} {ops:Array Oper} {rest:List Oper} {o:Oper} {a:Act} {K:Act→World→Prop} {Q:Exit→Act→World→Prop} {E:Prop} {w wx:World}
theorem zeX {g:Nat} {t:TypeId} {w:World} {A X B cs:List Value} (h:w.heap[g]?=some (.cells (A++X++B).toArray t (0,0))) (hl:cs.length=X.length) :
  (w.setCells g A.length cs).heap[g]?=some (.cells (A++cs++B).toArray t (0,0)):=by
 obtain ⟨cur',h1,h2⟩:=ze5 g t cs A.length w _ h
 have hex:∀j,j<cs.length→(w.cell? ⟨g,A.length+j,none⟩).isSome=true:=fun j hj=>by
  rw [cell_of_row w g _ _ t (0,0) h,Array.getElem?_eq_getElem (by simp;omega)]
  rfl
 have e:cur'=(A++cs++B).toArray:=by
  apply Array.ext
  ·simp [h2,hl]
  ·intro j hj hj2
   simp only [List.getElem_toArray]
   have hj3:j<A.length+X.length+B.length:=by simpa [h2,Nat.add_assoc] using hj
   have hc:(w.setCells g A.length cs).cell? ⟨g,j,none⟩=some cur'[j]:=by
    rw [cell_of_row _ g j cur' t (0,0) h1,Array.getElem?_eq_getElem hj]
   rcases Nat.lt_or_ge j A.length with h3 | h3
   ·rw [World.cell?_setCells_out g cs A.length w ⟨g,j,none⟩ (fun _ _ => .inl h3),cell_of_row w g j _ t (0,0) h] at hc
    have:(A++cs++B)[j]?=some cur'[j]:=by
     rw [←hc]
     simp [h3,Nat.lt_add_right]
    exact (Option.some.inj (this.symm.trans (List.getElem?_eq_getElem (by simpa using hj2))))
   ·rcases Nat.lt_or_ge j (A.length+cs.length) with h4 | h4
    ·have h5:=World.cell?_setCells_in g cs A.length w hex (j-A.length) (by omega)
     rw [show A.length+(j-A.length)=j by omega,hc] at h5
     have:(A++cs++B)[j]?=some cur'[j]:=by
      rw [h5,List.append_assoc,List.getElem?_append_right h3,List.getElem?_append_left (by omega),List.getElem?_eq_getElem (by omega)]
     exact (Option.some.inj (this.symm.trans (List.getElem?_eq_getElem (by simpa using hj2))))
    ·rw [World.cell?_setCells_out g cs A.length w ⟨g,j,none⟩ (fun _ _ => .inr h4),cell_of_row w g j _ t (0,0) h] at hc
     have:(A++cs++B)[j]?=some cur'[j]:=by
      rw [←hc,List.getElem?_toArray,List.getElem?_append_right (by simp;omega),List.getElem?_append_right (by simp;omega)]
      simp [hl]
     exact (Option.some.inj (this.symm.trans (List.getElem?_eq_getElem (by simpa using hj2))))
 rw [h1,e]
theorem zgj (dT sT ty e:TypeId) (size:Nat) {g n B k m dn dc sn sc:Nat} {ad:Addr} {A X Y cs:List Value} (hu:P.underlying dT=some (.slice e)) (hsz:(P.info? e).map (·.size)=some size)
  (hown:wx.ownsRow B e size (.slice (some ⟨g,0,none⟩) n n) n (A++X++Y)) (hk:A.length=k) (hm:m=sn.min dn) (hl:cs.length=m*size) (hX:X.length=cs.length) (hsrc:∀j u,cs[j]?=some u→wx.cell? (ad.add j)=some u) (h1:∀v∈cs,v.oneCell'=true) :
  (Builtin.copy_ #[dT,sT] ty #[.slice (some ⟨g,k,none⟩) dn dc,.slice (some ad) sn sc]).run P wx = .ok (goInt m) (wx.setCells g k cs)∧(wx.setCells g k cs).ownsRow B e size (.slice (some ⟨g,0,none⟩) n n) n (A++cs++Y)∧But (some g) wx (wx.setCells g k cs):=by
 subst hk
 have hlen:=hown.1
 have hrow:∃cur,B≤g∧wx.heap[g]?=some (.cells cur e (0,0))∧n≤maxLen∧cur.size=n*size∧cur.toList.take (n*size)=A++X++Y:=by
  rcases hown.2 with ⟨h',_⟩ | ⟨g',cap',cur,h',hb,hg,hnc,hcm,hcs,hq⟩
  ·simp at h'
  ·simp only [Value.slice.injEq,Option.some.injEq,Addr.mk.injEq,and_true,true_and] at h'
   obtain ⟨rfl,rfl⟩:=h'
   exact ⟨cur,hb,hg,hcm,hcs,hq⟩
 obtain ⟨cur,hb,hg,hmx,hcs,hq⟩:=hrow
 have hcur:cur=(A++X++Y).toArray:=by
  rw [←hq,List.take_of_length_le (by simp [hcs])]
 subst hcur
 refine ⟨zdE wx dT sT ty e size m g A.length ad dn dc sn sc cs hu hsz hm hl hsrc ?_ (fun j _=>World.ownsRow.frozenAt hown _) h1,⟨?_,.inr ⟨g,n,_,rfl,hb,zeX hg hX.symm,Nat.le_refl _,hmx,?_,?_⟩⟩,ze9 g cs A.length wx⟩
 ·intro j hj
  rw [cell_of_row wx g _ _ e (0,0) hg,Array.getElem?_eq_getElem (by simp;omega)]
  rfl
 ·simpa [hX] using hlen
 ·simpa [hX] using hcs
 ·refine List.take_of_length_le ?_
  show (A++cs++Y).length≤n*size
  simp only [List.length_append] at hlen ⊢
  omega
end
end Go.Proofs.YtkneghkbgingdaaGreatDoor
