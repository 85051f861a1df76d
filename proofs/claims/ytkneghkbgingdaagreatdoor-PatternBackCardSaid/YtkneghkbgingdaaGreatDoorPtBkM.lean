/- The written instructions reproduce the chart, and the text the pattern; and what is read has just this text; for any chart, pattern, number, and strings of at most 3,000 bytes. -/
import Derived.Test.YtkneghkbgingdaaGreatDoorK49
import Derived.Test.YtkneghkbgingdaaGreatDoorK50
import Derived.Test.YtkneghkbgingdaaGreatDoorCards
namespace Go.Proofs.YtkneghkbgingdaaGreatDoor
set_option maxHeartbeats 16000000
set_option maxRecDepth 100000
open Go.ChangeShapes Go.WideShapes Go.ChangeAt Go.RowKit Go.Joins
theorem patternBack_walk (sc:Int) (A:Option Addr) (n c:Nat) (rows:List Ro) (nm:List UInt8) (g1 g2 g3 g4:Int) (As:Option Addr) (ns cs:Nat) (st:List Stf) (Ac:Option Addr) (nc cc:Nat) (se:List Sec) (start:Int) (s t:List UInt8) (w:World)
  (hr:Rws w (fun _=>True) A n rows) (hs:Vec shStf w As ns st) (hsm:ns≤maxLen) (hc:Secs w Ac nc se) (hg:Glob w) :
  Calls Tryz.prog 6 #[.agg #[.int .i64 sc,.slice A n c],.agg #[.string ⟨nm.toArray⟩,.int .i64 g1,.int .i64 g2,.int .i64 g3,.int .i64 g4,.slice As ns cs,.slice Ac nc cc],.int .i64 start,.string ⟨s.toArray⟩,.string ⟨t.toArray⟩] w fun e w'=>e = .returned (.bool true)∧Ext w w':=by
 have HR:=Za hr
 have HSV:=Za hs
 have HCV:=Za hc
 have HG:=Za hg
 have HBC:=Za ((BoxC.start w sc A n c).ext ((Zd _).alloc (.cells #[.string ⟨nm.toArray⟩,.int .i64 g1,.int .i64 g2,.int .i64 g3,.int .i64 g4,.slice As ns cs,.slice Ac nc cc] 42)))
 have HBP:=Za (BoxP.start (w.alloc (.cells #[.int .i64 sc,.slice A n c] 24)) nm g1 g2 g3 g4 As ns cs Ac nc cc)
 rw [ZI] at HBP
 have HW0:=Za (show Ext w ((w.alloc (.cells #[.int .i64 sc,.slice A n c] 24)).alloc (.cells #[.string ⟨nm.toArray⟩,.int .i64 g1,.int .i64 g2,.int .i64 g3,.int .i64 g4,.slice As ns cs,.slice Ac nc cc] 42)) from ((Zd w).alloc _).alloc _)
 have HE:=Za (Zd ((w.alloc (.cells #[.int .i64 sc,.slice A n c] 24)).alloc (.cells #[.string ⟨nm.toArray⟩,.int .i64 g1,.int .i64 g2,.int .i64 g3,.int .i64 g4,.slice As ns cs,.slice Ac nc cc] 42)))
 have HAL:=Za (fun (w':World) (hx:Ext ((w.alloc (.cells #[.int .i64 sc,.slice A n c] 24)).alloc (.cells #[.string ⟨nm.toArray⟩,.int .i64 g1,.int .i64 g2,.int .i64 g3,.int .i64 g4,.slice As ns cs,.slice Ac nc cc] 42)) w')=>zaS w' (HG.out.ext (HW0.out.trans hx)))
 have HGC:=Za (fun (w':World) (hx:Ext ((w.alloc (.cells #[.int .i64 sc,.slice A n c] 24)).alloc (.cells #[.string ⟨nm.toArray⟩,.int .i64 g1,.int .i64 g2,.int .i64 g3,.int .i64 g4,.slice As ns cs,.slice Ac nc cc] 42)) w')=>zaR sc A n c rows w' (HR.out.ext (HW0.out.trans hx)))
 have HGR:=Za (fun (w':World) (hx:Ext ((w.alloc (.cells #[.int .i64 sc,.slice A n c] 24)).alloc (.cells #[.string ⟨nm.toArray⟩,.int .i64 g1,.int .i64 g2,.int .i64 g3,.int .i64 g4,.slice As ns cs,.slice Ac nc cc] 42)) w')=>za3 nm g1 g2 g3 g4 As ns cs st Ac nc cc se w' (HSV.out.ext (HW0.out.trans hx)) hsm (HCV.out.ext (HW0.out.trans hx)))
 by_cases hls:((3000:Int)<(s.length:Int))∨(¬((3000:Int)<(s.length:Int))∧(3000:Int)<(t.length:Int))
 ·rcases hls with h3 | ⟨h3,h4⟩
  all_goals
   go_enter Tryz.func6,Tryz.ntmps6
   go_wp2_with (first
    | (go_at_call 29;((with_reducible refine (HAL.out _ (HE.out.trans zx)).mono ?_);rintro e w1 ⟨rfl,hq1⟩;replace HE:=Za (HE.out.trans (Zb zx hq1:Ext _ w1));clear hq1;obtain ⟨x0,x1,xz⟩:=(HBC.out.ext HE.out).facts;obtain ⟨y0,y1,y2,y3,y4,y5,y6,yz⟩:=(HBP.out.ext HE.out).facts))
    | (go_at_call 9;((with_reducible refine (HGC.out _ (HE.out.trans zx)).mono ?_);rintro e w2 ⟨⟨b,rfl⟩,hq2⟩;replace HE:=Za (HE.out.trans (Zb zx hq2:Ext _ w2));clear hq2;obtain ⟨x0,x1,xz⟩:=(HBC.out.ext HE.out).facts;obtain ⟨y0,y1,y2,y3,y4,y5,y6,yz⟩:=(HBP.out.ext HE.out).facts;cases b))
    | (go_at_call 15;((with_reducible refine (HGR.out _ (HE.out.trans zx)).mono ?_);rintro e w3 ⟨⟨b,rfl,hb⟩,hq3⟩;have HSM:=Za hb;clear hb;replace HE:=Za (HE.out.trans (Zb zx hq3:Ext _ w3));clear hq3;obtain ⟨x0,x1,xz⟩:=(HBC.out.ext HE.out).facts;obtain ⟨y0,y1,y2,y3,y4,y5,y6,yz⟩:=(HBP.out.ext HE.out).facts;cases b)))
   all_goals (go_ret;exact ⟨rfl,HW0.out.trans HE.out⟩)
 have hb:=zj4 sc A n c rows nm g1 g2 g3 g4 As ns cs st Ac nc cc se start s t w hr hs hsm hc hg (fun h=>hls (.inl h)) (fun h=>hls (.inr ⟨fun h5=>hls (.inl h5),h⟩))
 generalize rowsE sc rows=E1 at *
 generalize ptxE nm (gerr g1 g2 g3 g4) g1 g2 g3 g4 st se=E2 at *
 by_cases hA:E1=0
 ·by_cases hB:E2=0
  ·subst hA;subst hB
   exact zoO sc A n c rows nm g1 g2 g3 g4 As ns cs st Ac nc cc se start s t w _ _ _ _ _ hb
  ·subst hA
   exact zoP sc A n c rows nm g1 g2 g3 g4 As ns cs st Ac nc cc se start s t w E2 (by simpa using hB) _ _ _ _ _ hb
 ·by_cases hB:E2=0
  ·subst hB
   exact zoQ sc A n c rows nm g1 g2 g3 g4 As ns cs st Ac nc cc se start s t w E1 (by simpa using hA) _ _ _ _ _ hb
  ·exact zoR sc A n c rows nm g1 g2 g3 g4 As ns cs st Ac nc cc se start s t w E1 (by simpa using hA) E2 (by simpa using hB) _ _ _ _ _ hb
set_option maxRecDepth 100000 in
theorem patternBack_lifted (os:Os) (started:os.Started) (H:Type) (enc:TypeId×Value→H) :
  ReturnsInHanded {} Tryz.checked os 6 .any (fun w args=>(Rows.patternBackSpec.pre enc Tryz.prog Tryz.f6 [] false w args∧laidMetH Tryz.prog [("math/bits.deBruijn32tab",Rows.laid_math_bits_deBruijn32tab),("math/bits.deBruijn64tab",Rows.laid_math_bits_deBruijn64tab),("internal/strconv.uint64pow10",Rows.laid_internal_strconv_uint64pow10),("unicode/utf8.acceptRanges",Rows.laid_unicode_utf8_acceptRanges),("strconv.ErrRange",Rows.laid_strconv_ErrRange),("strconv.ErrSyntax",Rows.laid_strconv_ErrSyntax),("unicode/utf8.first",Rows.laid_unicode_utf8_first)] w)∧sizedMet enc Tryz.prog Tryz.f6 (OpenSpec.ofChange Rows.patternBackSpec) false w args)
   (Rows.patternBackSpec.post enc Tryz.prog Tryz.f6 false true false false):=by
 refine zbI (C:=Tryz.checked) (X:=fun w _=>laidMetH Tryz.prog [("math/bits.deBruijn32tab",Rows.laid_math_bits_deBruijn32tab),("math/bits.deBruijn64tab",Rows.laid_math_bits_deBruijn64tab),("internal/strconv.uint64pow10",Rows.laid_internal_strconv_uint64pow10),("unicode/utf8.acceptRanges",Rows.laid_unicode_utf8_acceptRanges),("strconv.ErrRange",Rows.laid_strconv_ErrRange),("strconv.ErrSyntax",Rows.laid_strconv_ErrSyntax),("unicode/utf8.first",Rows.laid_unicode_utf8_first)] w) (fun _ _ _ hh h=>h.of_heap hh) own started (by kernel_rfl) Tryz.func6
  (ChangeSpec.witness_shaped (enc:=enc) (C:=Tryz.checked) (os:=os) (X:=fun w _=>laidMetH Tryz.prog [("math/bits.deBruijn32tab",Rows.laid_math_bits_deBruijn32tab),("math/bits.deBruijn64tab",Rows.laid_math_bits_deBruijn64tab),("internal/strconv.uint64pow10",Rows.laid_internal_strconv_uint64pow10),("unicode/utf8.acceptRanges",Rows.laid_unicode_utf8_acceptRanges),("strconv.ErrRange",Rows.laid_strconv_ErrRange),("strconv.ErrSyntax",Rows.laid_strconv_ErrSyntax),("unicode/utf8.first",Rows.laid_unicode_utf8_first)] w) false (World.laidAll Tryz.prog os [("math/bits.deBruijn32tab",Rows.laid_math_bits_deBruijn32tab),("math/bits.deBruijn64tab",Rows.laid_math_bits_deBruijn64tab),("internal/strconv.uint64pow10",Rows.laid_internal_strconv_uint64pow10),("unicode/utf8.acceptRanges",Rows.laid_unicode_utf8_acceptRanges),("strconv.ErrRange",Rows.laid_strconv_ErrRange),("strconv.ErrSyntax",Rows.laid_strconv_ErrSyntax),("unicode/utf8.first",Rows.laid_unicode_utf8_first)]) #[.agg #[.int .i64 0,.slice none 0 0],.agg #[.string ⟨#[]⟩,.int .i64 0,.int .i64 0,.int .i64 0,.int .i64 0,.slice none 0 0,.slice none 0 0],.int .i64 0,.string ⟨#[]⟩,.string ⟨#[]⟩] 8 (World.laidAll_os _ _ _)
   (World.shaped_of_ZipB (by kernel_rfl) (by kernel_rfl)) (by kernel_rfl) (by kernel_rfl) (by kernel_rfl)
   (by rw [MakeChecks.laidMetH_plain _ _ _ (by kernel_rfl)];exact laidMet_laidAll _ (by kernel_rfl) (by kernel_rfl))) ?_
 intro W base args ds gs before hval0 hW hL hsh
 have hval:∀(j:Nat) t v,Tryz.f6.params[j]?=some t→args[j]?=some v→Value.okWide Tryz.prog W .any base t v:=hval0
 have hW':=hW
 obtain ⟨p,q,hA0,hV,rfl,hfz,hnd⟩:=hW
 have hA:DataW.TrodAll enc Tryz.prog W 0 (fun _=>true) true Tryz.f6.params.toList args.toList ds p:=hA0
 rw [Tryz.params6] at hA hval
 obtain ⟨v0,vs0,d0,ds0,p0,q0,hargs,rfl,rfl,h0,r0⟩:=trodAll_cons hA
 obtain ⟨v1,vs1,d1,ds1,p1,q1,rfl,rfl,rfl,h1,r1⟩:=trodAll_cons r0
 obtain ⟨v2,vs2,d2,ds2,p2,q2,rfl,rfl,rfl,h2,r2⟩:=trodAll_cons r1
 obtain ⟨v3,vs3,d3,ds3,p3,q3,rfl,rfl,rfl,h3,r3⟩:=trodAll_cons r2
 obtain ⟨v4,vs4,d4,ds4,p4,q4,rfl,rfl,rfl,h4,r4⟩:=trodAll_cons r3
 obtain ⟨rfl,rfl,rfl⟩:=trodAll_nil r4
 obtain rfl:args=#[v0,v1,v2,v3,v4]:=by cases args;simp_all
 obtain ⟨rfl,rfl⟩:=trodVars_none hV
 obtain ⟨qs,Aq,nq,cq,q,rfl,hiq⟩:=zdv (hval 0 24 v0 rfl rfl) h0
 obtain ⟨pnm,pg1,pg2,pg3,pg4,pAs,pns,pcs,pst,pAc,pnc,pcc,pse,rfl,ph1,ph2,ph3,ph4,ph5⟩:=zch (hval 1 42 v1 rfl rfl) h1
 obtain ⟨k,rfl,rfl, -, -⟩:=open_int Tryz.underlying3 (hval 2 3 v2 rfl rfl) h2
 obtain ⟨sB,rfl, -, -, -⟩:=ChangeMaps.open_string Tryz.underlying9 (hval 3 9 v3 rfl rfl) h3
 obtain ⟨s,rfl⟩:∃l:List UInt8,sB=⟨l.toArray⟩:=⟨sB.data.toList,by simp⟩
 obtain ⟨tB,rfl, -, -, -⟩:=ChangeMaps.open_string Tryz.underlying9 (hval 4 9 v4 rfl rfl) h4
 obtain ⟨t,rfl⟩:∃l:List UInt8,tB=⟨l.toArray⟩:=⟨tB.data.toList,by simp⟩
 rw [MakeChecks.laidMetH_plain _ _ _ (by kernel_rfl)] at hL
 have hG:=zfM hL hsh
 refine (patternBack_walk qs Aq nq cq q pnm pg1 pg2 pg3 pg4 pAs pns pcs pst pAc pnc pcc pse k s t W hiq ph1 ph2 ph3 hG).mono fun e W' ⟨he,hg⟩=>?_
 subst he
 exact ⟨_,rfl,zd9 zd8 rfl Tryz.underlying4 (by kernel_rfl) rfl hW' rfl hg⟩
theorem patternBack_holds:Rows.PatternBackSaid :=
 OpenClaim.holds_of_wide 6 Tryz.f6 rfl rfl rfl rfl rfl rfl rfl ⟨rfl,rfl,rfl,rfl,rfl⟩ rfl rfl rfl rfl rfl (by kernel_rfl) Tryz.func6 (by kernel_rfl)
  (of_decide_eq_true (by kernel_rfl)) (by unfold Func.isWrapper;first | (rw [if_pos (by decide +kernel)];kernel_rfl) | (rw [if_neg (by decide +kernel)];exact ⟨rfl,rfl⟩))
  (fun os started H enc _=>patternBack_lifted os started H enc)
theorem patternBack_card:Rows.PatternBackCardSaid :=
 Claim7.holds_tied_plain_at .later [] [.data,.data,.data,.data,.sentinel,.sentinel,.pinned] true (true, "82ac2ac690227137bd2922f134a4e9e2379fe122be6281254703ee86f1f41d35") true
  patternBack_holds (fun _ h=>by cases h) (by kernel_rfl) (fun _ h=>by cases h) patternBack_row_tie rfl ⟨rfl,rfl⟩ (by kernel_rfl) rfl
  (fun f fn hf hfn=>by
   obtain rfl:f=6:=ZV ((show Tryz.prog.funcNamed "raddle/raddlelaw43.PatternBack" = some 6 by kernel_rfl).symm.trans hf) |>.symm
   obtain rfl:fn=Tryz.f6:=(ZV (Tryz.func6.symm.trans hfn)).symm
   exact ⟨by kernel_rfl,fun j t ht=>by
    rw [Tryz.params6] at ht
    have hm:t∈[24,42,3,9,9]:=by simpa using Array.mem_of_getElem? ht
    have hall:([24,42,3,9,9].all fun u => !Tryz.prog.wantsStandIn u)=true:=by kernel_rfl
    exact (show Tryz.prog.wantsStandIn t=false by simpa using Zq.1 hall t hm)⟩)
  (by kernel_rfl)
end Go.Proofs.YtkneghkbgingdaaGreatDoor
