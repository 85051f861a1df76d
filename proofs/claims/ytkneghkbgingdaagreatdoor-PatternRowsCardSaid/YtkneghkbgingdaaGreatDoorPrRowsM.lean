/- Rows and ReadRows return what the reference returns; for a chart that is not great, any number, and a string of at most 3,000 bytes. -/
import Derived.Test.YtkneghkbgingdaaGreatDoorP51
import Derived.Test.YtkneghkbgingdaaGreatDoorP46
import Derived.Test.YtkneghkbgingdaaGreatDoorP49
import Derived.Test.YtkneghkbgingdaaGreatDoorP47
import Derived.Test.YtkneghkbgingdaaGreatDoorP09
import Derived.Test.YtkneghkbgingdaaGreatDoorCards
namespace Go.Proofs.YtkneghkbgingdaaGreatDoor
set_option maxRecDepth 100000
set_option maxRecDepth 100000
open Go.ChangeShapes Go.WideShapes Go.ChangeAt Go.RowKit Go.Joins
set_option maxHeartbeats 16000000 in
theorem patternRows_walk (sc:Int) (A:Option Addr) (n c:Nat) (rows:List Ro) (start:Int) (s:List UInt8) (w:World) (hr:Rws w (fun _=>True) A n rows) (hk:Caps w A n) (hg:Glob w) :
  Calls Tryz.prog 3 #[.agg #[.int .i64 sc,.slice A n c],.int .i64 start,.string ⟨s.toArray⟩] w fun e w'=>e = .returned (.bool true)∧Ext w w':=by
 have HR:=Lib.hid hr
 have HK:=Lib.hid hk
 have HG:=Lib.hid hg
 have HBX:=Lib.hid (BoxC.start w sc A n c)
 have HW0:=Lib.hid (show Ext w (w.alloc (.cells #[.int .i64 sc,.slice A n c] 24)) from (Ext.refl w).alloc _)
 have HGR:=Lib.hid (fun (w':World) (hx:Ext (w.alloc (.cells #[.int .i64 sc,.slice A n c] 24)) w')=>zhD sc A n c rows w' (HR.out.ext (HW0.out.trans hx)))
 have H1:=Lib.hid (fun (w':World) (hx:Ext (w.alloc (.cells #[.int .i64 sc,.slice A n c] 24)) w')=>zeE sc A n c rows w' (HR.out.ext (HW0.out.trans hx)) (HG.out.ext (HW0.out.trans hx)))
 have H2:=Lib.hid (fun (w':World) (hx:Ext (w.alloc (.cells #[.int .i64 sc,.slice A n c] 24)) w')=>zc9 sc A n c rows w' (HR.out.ext (HW0.out.trans hx)) (HK.out.ext (HW0.out.trans hx)))
 unfold PRowsR at H1 H2
 obtain ⟨V,e1⟩:∃v,rowsV sc rows=v:=⟨_,rfl⟩
 obtain ⟨E,e2⟩:∃v,rowsE sc rows=v:=⟨_,rfl⟩
 rw [e1,e2] at H1 H2
 clear hr hk hg e1 e2
 by_cases hs:(3000:Int)<(s.length:Int)
 ·go_enter Tryz.func3,Tryz.ntmps3
  go_wp2_with (first
   | (go_at_call 9;((with_reducible refine (HGR.out _ (by repeat (first|exact zr _|assumption|refine za ?_ _|refine zd ?_|refine zn ?_ _|refine zt ?_ (by assumption)))).mono ?_);rintro e w1 ⟨⟨b,rfl⟩,hq1⟩;have HE1:=Lib.hid (by repeat (first|exact zr _|assumption|refine za ?_ _|refine zd ?_|refine zn ?_ _|refine zt ?_ (by assumption)):Ext (w.alloc (.cells #[.int .i64 sc,.slice A n c] 24)) w1);obtain ⟨x0,x1,xz⟩:=(HBX.out.ext (HE1.out)).facts;cases b)))
  all_goals (go_ret;exact ⟨rfl,HW0.out.trans HE1.out⟩)
 have H3:=Lib.hid (fun (w':World) (hx:Ext (w.alloc (.cells #[.int .i64 sc,.slice A n c] 24)) w')=>zjK start s (by omega) w' (HG.out.ext (HW0.out.trans hx)))
 have H4:=Lib.hid (fun (w':World)=>zi4 start s (by omega) w')
 unfold RdR at H3 H4
 obtain ⟨vS,e1⟩:∃v,rwS atoiO start s=v:=⟨_,rfl⟩
 obtain ⟨vL,e2⟩:∃v,rwL atoiO start s=v:=⟨_,rfl⟩
 obtain ⟨vE,e3⟩:∃v,rwE atoiO start s=v:=⟨_,rfl⟩
 rw [e1,e2,e3] at H3 H4
 clear e1 e2 e3
 go_enter Tryz.func3,Tryz.ntmps3
 go_wp2_with (first
  | (go_at_call 9;((with_reducible refine (HGR.out _ (by repeat (first|exact zr _|assumption|refine za ?_ _|refine zd ?_|refine zn ?_ _|refine zt ?_ (by assumption)))).mono ?_);rintro e w1 ⟨⟨b,rfl⟩,hq1⟩;have HE1:=Lib.hid (by repeat (first|exact zr _|assumption|refine za ?_ _|refine zd ?_|refine zn ?_ _|refine zt ?_ (by assumption)):Ext (w.alloc (.cells #[.int .i64 sc,.slice A n c] 24)) w1);obtain ⟨x0,x1,xz⟩:=(HBX.out.ext (HE1.out)).facts;cases b))
  | (go_at_call 10;((with_reducible refine (H1.out _ (HE1.out.trans (by repeat (first|exact zr _|assumption|refine za ?_ _|refine zd ?_|refine zn ?_ _|refine zt ?_ (by assumption))))).mono ?_);rintro e w2 ⟨rfl,hq2⟩;have HE2:=Lib.hid (HE1.out.trans (by repeat (first|exact zr _|assumption|refine za ?_ _|refine zd ?_|refine zn ?_ _|refine zt ?_ (by assumption)):Ext w1 w2));obtain ⟨x0,x1,xz⟩:=(HBX.out.ext (HE2.out)).facts))
  | (go_at_call 11;((with_reducible refine (H2.out _ (HE2.out.trans (by repeat (first|exact zr _|assumption|refine za ?_ _|refine zd ?_|refine zn ?_ _|refine zt ?_ (by assumption))))).mono ?_);rintro e w3 ⟨rfl,hq3⟩;have HE3:=Lib.hid (HE2.out.trans (by repeat (first|exact zr _|assumption|refine za ?_ _|refine zd ?_|refine zn ?_ _|refine zt ?_ (by assumption)):Ext w2 w3));obtain ⟨x0,x1,xz⟩:=(HBX.out.ext (HE3.out)).facts))
  | (go_at_call 12;((with_reducible refine (H3.out _ (HE3.out.trans (by repeat (first|exact zr _|assumption|refine za ?_ _|refine zd ?_|refine zn ?_ _|refine zt ?_ (by assumption))))).mono ?_);rintro e w4 ⟨A4,n4,c4,rfl,hq4,hr4⟩;have HR4:=Lib.hid hr4;have HE4:=Lib.hid (HE3.out.trans (by repeat (first|exact zr _|assumption|refine za ?_ _|refine zd ?_|refine zn ?_ _|refine zt ?_ (by assumption)):Ext w3 w4));have HA:=Lib.hid (BoxC.start w4 vS A4 n4 c4);clear hr4))
  | (go_at_call 13;((with_reducible refine (H4.out _).mono ?_);rintro e w5 ⟨A5,n5,c5,rfl,hq5,hr5⟩;have HR5:=Lib.hid hr5;have HQ5:=Lib.hid hq5;have HE5:=Lib.hid (HE4.out.trans (by repeat (first|exact zr _|assumption|refine za ?_ _|refine zd ?_|refine zn ?_ _|refine zt ?_ (by assumption)):Ext w4 w5));have HB:=Lib.hid (BoxC.start w5 vS A5 n5 c5);obtain ⟨y0,y1,yz⟩:=(HA.out.ext (hq5:Ext _ w5)).facts;have HRA:=Lib.hid (HR4.out.any.ext (((Ext.refl w4).alloc _).trans HQ5.out));clear hr5))
  | (go_at_call 14;((with_reducible refine (zh6 vS vS A4 A5 n4 n5 c4 c5 vL vL _ (HRA.out.ext (by repeat (first|exact zr _|assumption|refine za ?_ _|refine zd ?_|refine zn ?_ _|refine zt ?_ (by assumption)))) (HR5.out.any.ext (by repeat (first|exact zr _|assumption|refine za ?_ _|refine zd ?_|refine zn ?_ _|refine zt ?_ (by assumption))))).mono ?_);rintro e w8 ⟨rfl,hq8⟩;rw [zeH];have HX8:=Lib.hid (Ext.trans (by repeat (first|exact zr _|assumption|refine za ?_ _|refine zd ?_|refine zn ?_ _|refine zt ?_ (by assumption))) hq8:Ext w5 w8);clear hq8)))
 all_goals (first
  | (go_ret;exact ⟨rfl,HW0.out.trans HE1.out⟩)
  | (go_ret;exact ⟨by first | rfl | simp,HW0.out.trans (HE5.out.trans HX8.out)⟩))
set_option maxRecDepth 100000 in
theorem patternRows_lifted (os:Os) (started:os.Started) (H:Type) (enc:TypeId×Value→H) :
  ReturnsInHanded {} Tryz.checked os 3 .any (fun w args=>(Rows.patternRowsSpec.pre enc Tryz.prog Tryz.f3 [] false w args∧laidMetH Tryz.prog [("math/bits.deBruijn32tab",Rows.laid_math_bits_deBruijn32tab),("math/bits.deBruijn64tab",Rows.laid_math_bits_deBruijn64tab),("internal/strconv.uint64pow10",Rows.laid_internal_strconv_uint64pow10),("unicode/utf8.acceptRanges",Rows.laid_unicode_utf8_acceptRanges),("strconv.ErrRange",Rows.laid_strconv_ErrRange),("strconv.ErrSyntax",Rows.laid_strconv_ErrSyntax),("unicode/utf8.first",Rows.laid_unicode_utf8_first)] w)∧sizedMet enc Tryz.prog Tryz.f3 (OpenSpec.ofChange Rows.patternRowsSpec) false w args)
   (Rows.patternRowsSpec.post enc Tryz.prog Tryz.f3 false true false false):=by
 refine ze7 (C:=Tryz.checked) (X:=fun w _=>laidMetH Tryz.prog [("math/bits.deBruijn32tab",Rows.laid_math_bits_deBruijn32tab),("math/bits.deBruijn64tab",Rows.laid_math_bits_deBruijn64tab),("internal/strconv.uint64pow10",Rows.laid_internal_strconv_uint64pow10),("unicode/utf8.acceptRanges",Rows.laid_unicode_utf8_acceptRanges),("strconv.ErrRange",Rows.laid_strconv_ErrRange),("strconv.ErrSyntax",Rows.laid_strconv_ErrSyntax),("unicode/utf8.first",Rows.laid_unicode_utf8_first)] w) (fun _ _ _ hh h=>h.of_heap hh) own started (by kernel_rfl) Tryz.func3
  (ChangeSpec.witness_shaped (enc:=enc) (C:=Tryz.checked) (os:=os) (X:=fun w _=>laidMetH Tryz.prog [("math/bits.deBruijn32tab",Rows.laid_math_bits_deBruijn32tab),("math/bits.deBruijn64tab",Rows.laid_math_bits_deBruijn64tab),("internal/strconv.uint64pow10",Rows.laid_internal_strconv_uint64pow10),("unicode/utf8.acceptRanges",Rows.laid_unicode_utf8_acceptRanges),("strconv.ErrRange",Rows.laid_strconv_ErrRange),("strconv.ErrSyntax",Rows.laid_strconv_ErrSyntax),("unicode/utf8.first",Rows.laid_unicode_utf8_first)] w) false (World.laidAll Tryz.prog os [("math/bits.deBruijn32tab",Rows.laid_math_bits_deBruijn32tab),("math/bits.deBruijn64tab",Rows.laid_math_bits_deBruijn64tab),("internal/strconv.uint64pow10",Rows.laid_internal_strconv_uint64pow10),("unicode/utf8.acceptRanges",Rows.laid_unicode_utf8_acceptRanges),("strconv.ErrRange",Rows.laid_strconv_ErrRange),("strconv.ErrSyntax",Rows.laid_strconv_ErrSyntax),("unicode/utf8.first",Rows.laid_unicode_utf8_first)]) #[.agg #[.int .i64 0,.slice none 0 0],.int .i64 0,.string ⟨#[]⟩] 8 (World.laidAll_os _ _ _)
   (World.shaped_of_ZipB (by kernel_rfl) (by kernel_rfl)) (by kernel_rfl) (by kernel_rfl) (by kernel_rfl)
   (by rw [MakeChecks.laidMetH_plain _ _ _ (by kernel_rfl)];exact laidMet_laidAll _ (by kernel_rfl) (by kernel_rfl))) ?_
 intro W base args ds gs before hval0 hW hL hsh
 have hval:∀(j:Nat) t v,Tryz.f3.params[j]?=some t→args[j]?=some v→Value.okWide Tryz.prog W .any base t v:=hval0
 have hW':=hW
 obtain ⟨p,q,hA0,hV,rfl,hfz,hnd⟩:=hW
 have hA:DataW.TrodAll enc Tryz.prog W 0 (fun _=>true) true Tryz.f3.params.toList args.toList ds p:=hA0
 rw [Tryz.params3] at hA hval
 obtain ⟨v0,vs0,d0,ds0,p0,q0,hargs,rfl,rfl,h0,r0⟩:=trodAll_cons hA
 obtain ⟨v1,vs1,d1,ds1,p1,q1,rfl,rfl,rfl,h1,r1⟩:=trodAll_cons r0
 obtain ⟨v2,vs2,d2,ds2,p2,q2,rfl,rfl,rfl,h2,r2⟩:=trodAll_cons r1
 obtain ⟨rfl,rfl,rfl⟩:=trodAll_nil r2
 obtain rfl:args=#[v0,v1,v2]:=by cases args;simp_all
 obtain ⟨rfl,rfl⟩:=trodVars_none hV
 obtain ⟨qs,Aq,nq,cq,q,rfl,hiq,hkq⟩:=zcR (hval 0 24 v0 rfl rfl) h0
 obtain ⟨k,rfl,rfl, -, -⟩:=open_int Tryz.underlying3 (hval 1 3 v1 rfl rfl) h1
 obtain ⟨sB,rfl, -, -, -⟩:=ChangeMaps.open_string Tryz.underlying9 (hval 2 9 v2 rfl rfl) h2
 obtain ⟨s,rfl⟩:∃l:List UInt8,sB=⟨l.toArray⟩:=⟨sB.data.toList,by simp⟩
 rw [MakeChecks.laidMetH_plain _ _ _ (by kernel_rfl)] at hL
 have hG:=zlZ hL hsh
 refine (patternRows_walk qs Aq nq cq q k s W hiq hkq hG).mono fun e W' ⟨he,hg⟩=>?_
 subst he
 exact ⟨_,rfl,zkS zkb rfl Tryz.underlying4 (by kernel_rfl) rfl hW' rfl hg⟩
theorem patternRows_holds :Rows.PatternRowsSaid :=
 OpenClaim.holds_of_wide 3 Tryz.f3 rfl rfl rfl rfl rfl rfl rfl ⟨rfl,rfl,rfl,rfl,rfl⟩ rfl rfl rfl rfl rfl (by kernel_rfl) Tryz.func3 (by kernel_rfl)
  (of_decide_eq_true (by kernel_rfl)) (by unfold Func.isWrapper;first | (rw [if_pos (by decide +kernel)];kernel_rfl) | (rw [if_neg (by decide +kernel)];exact ⟨rfl,rfl⟩))
  (fun os started H enc _=>patternRows_lifted os started H enc)
theorem patternRows_card :Rows.PatternRowsCardSaid :=
 Claim7.holds_tied_plain_at .later [] [.data,.data,.data,.data,.sentinel,.sentinel,.pinned] true (true, "82ac2ac690227137bd2922f134a4e9e2379fe122be6281254703ee86f1f41d35") true
  patternRows_holds (fun _ h=>by cases h) (by kernel_rfl) (fun _ h=>by cases h) patternRows_row_tie rfl ⟨rfl,rfl⟩ (by kernel_rfl) rfl
  (fun f fn hf hfn=>by
   obtain rfl:f=3:=Option.some.inj ((show Tryz.prog.funcNamed "raddle/raddlelaw43.PatternRows" = some 3 by kernel_rfl).symm.trans hf) |>.symm
   obtain rfl:fn=Tryz.f3:=(Option.some.inj (Tryz.func3.symm.trans hfn)).symm
   exact ⟨by kernel_rfl,fun j t ht=>by
    rw [Tryz.params3] at ht
    have hm:t∈[24,3,9]:=by simpa using Array.mem_of_getElem? ht
    have hall:([24,3,9].all fun u => !Tryz.prog.wantsStandIn u)=true:=by kernel_rfl
    exact (show Tryz.prog.wantsStandIn t=false by simpa using List.all_eq_true.1 hall t hm)⟩)
  (by kernel_rfl)
end Go.Proofs.YtkneghkbgingdaaGreatDoor
