/- Text and Parse return what the reference returns; for a pattern that is not great, and a string of at most 3,000 bytes. -/
import Derived.Test.YtkneghkbgingdaaGreatDoorT42
import Derived.Test.YtkneghkbgingdaaGreatDoorT43
import Derived.Test.YtkneghkbgingdaaGreatDoorCards
namespace Go.Proofs.YtkneghkbgingdaaGreatDoor
set_option maxHeartbeats 16000000
set_option maxRecDepth 100000
open Go.ChangeShapes Go.WideShapes Go.ChangeAt Go.RowKit Go.Joins
theorem par_none {s:List UInt8} {w w':World} {e:Ending} (hp:patP atoiO gerr s=none) (h:PparR s w e w'):e = .returned (.tuple #[.agg #[.string ⟨#[]⟩,.int .i64 0,.int .i64 0,.int .i64 0,.int .i64 0,.slice none 0 0,.slice none 0 0],.int .i64 12])/\Ext w w':=by
 obtain ⟨hb,⟨-,rfl⟩ | ⟨p,As,Ac,cs,cc,h1, -⟩⟩:=h
 ·exact ⟨rfl,hb⟩
 ·rw [hp] at h1;cases h1
theorem par_some {s:List UInt8} {q:PSt} {w w':World} {e:Ending} (hp:patP atoiO gerr s=some q) (h:PparR s w e w'):∃(As Ac:Option Addr) (cs cc:Nat),e = .returned (.tuple #[.agg #[.string ⟨q.nm.toArray⟩,.int .i64 q.g1,.int .i64 q.g2,.int .i64 q.g3,.int .i64 q.g4,.slice As q.st.length cs,.slice Ac q.se.length cc],.int .i64 0])/\Ext w w'/\Vec shStf w' As q.st.length q.st/\Secs w' Ac q.se.length q.se:=by
 obtain ⟨hb,⟨h1, -⟩ | ⟨p,As,Ac,cs,cc,h1,rfl,h2,h3, -⟩⟩:=h
 ·rw [hp] at h1;cases h1
 ·rw [hp] at h1
  cases h1
  exact ⟨As,Ac,cs,cc,rfl,hb,h2,h3⟩
theorem secs_nil (w:World):Secs w none 0 []:=⟨by unfold maxLen;omega,[],Vec.none_ _ _ _,rfl,fun k hk=>by simp at hk⟩
theorem psame_nil (w:World):Calls Tryz.prog 20 #[.agg #[.string ⟨#[]⟩,.int .i64 0,.int .i64 0,.int .i64 0,.int .i64 0,.slice none 0 0,.slice none 0 0],.agg #[.string ⟨#[]⟩,.int .i64 0,.int .i64 0,.int .i64 0,.int .i64 0,.slice none 0 0,.slice none 0 0]] w fun e w'=>e = .returned (.bool true)/\Ext w w' :=
 zfK [] 0 0 0 0 none none 0 0 0 [] none none 0 0 0 [] w (Vec.none_ shStf _ none) (secs_nil _) (Vec.none_ shStf _ none) (secs_nil _) (by omega)
theorem pat_stl {nm:List UInt8} {ge:Int} {st:List Stf} {se:List Sec} (h:patE nm ge st se=0):st.length<=1000000:=by
 unfold patE at h
 split at h
 ·cases h
 ·omega
theorem small_ps {nm:List UInt8} {ns nc:Nat} {st:List Stf} {se:List Sec} (h:SmallP nm ns nc st se):nm.length<=100000/\(∀i,i<ns->(stN st i).length<=100000)/\(∀i,i<nc->(seN se i).length<=100000)/\ns<=10000/\nc<=10000 :=
 ⟨by have:=h.2.2.1;omega,fun i hi=>by have:=h.2.2.2.1 i hi;omega,fun i hi=>by have:=h.2.2.2.2 i hi;omega,by have:=h.1;omega,by have:=h.2.1;omega⟩
theorem patternTexts_walk (nm:List UInt8) (g1 g2 g3 g4:Int) (As:Option Addr) (ns cs:Nat) (st:List Stf) (Ac:Option Addr) (nc cc:Nat) (se:List Sec) (s:List UInt8) (w:World)
  (hs:Vec shStf w As ns st) (hsm:ns<=maxLen) (hc:Secs w Ac nc se) (hk:SecCaps w Ac nc) (hg:Glob w) :
  Calls Tryz.prog 4 #[.agg #[.string ⟨nm.toArray⟩,.int .i64 g1,.int .i64 g2,.int .i64 g3,.int .i64 g4,.slice As ns cs,.slice Ac nc cc],.string ⟨s.toArray⟩] w fun e w'=>e = .returned (.bool true)/\Ext w w':=by
 have ap:=Za hs
 have al:=Za hc
 have aA:=Za hk
 have HG:=Za hg
 have ac:=Za (BoxP.start w nm g1 g2 g3 g4 As ns cs Ac nc cc)
 have aa:=Za (show Ext w (w.alloc (.cells #[.string ⟨nm.toArray⟩,.int .i64 g1,.int .i64 g2,.int .i64 g3,.int .i64 g4,.slice As ns cs,.slice Ac nc cc] 42)) from (Zf w).alloc _)
 have HE:=Za (Zf (w.alloc (.cells #[.string ⟨nm.toArray⟩,.int .i64 g1,.int .i64 g2,.int .i64 g3,.int .i64 g4,.slice As ns cs,.slice Ac nc cc] 42)))
 have am:=Za (fun (w':World) (hx:Ext (w.alloc (.cells #[.string ⟨nm.toArray⟩,.int .i64 g1,.int .i64 g2,.int .i64 g3,.int .i64 g4,.slice As ns cs,.slice Ac nc cc] 42)) w')=>ziN nm g1 g2 g3 g4 As ns cs st Ac nc cc se w' (ap.out.ext (aa.out.trans hx)) hsm (al.out.ext (aa.out.trans hx)))
 clear hs hc hk hg hsm
 by_cases h3:(3000:Int)<(s.length:Int)
 ·go_enter Tryz.func4,Tryz.ntmps4
  go_wp2_with (first
   | (go_at_call 15;((with_reducible refine (am.out _ (HE.out.trans zx)).mono ?_);rintro e w3 ⟨⟨b,rfl,hb⟩,ab⟩;clear hb;replace HE:=Za (HE.out.trans (Zi zx ab:Ext _ w3));clear ab;obtain ⟨y0,y1,y2,y3,y4,y5,y6,yz⟩:=(ac.out.ext HE.out).facts;cases b)))
  all_goals (go_ret;exact ⟨rfl,aa.out.trans HE.out⟩)
 have ak:=Za (fun (h:SmallP nm ns nc st se) (w':World) (hx:Ext (w.alloc (.cells #[.string ⟨nm.toArray⟩,.int .i64 g1,.int .i64 g2,.int .i64 g3,.int .i64 g4,.slice As ns cs,.slice Ac nc cc] 42)) w')=>zfL nm g1 g2 g3 g4 As ns cs st Ac nc cc se w' (ap.out.ext (aa.out.trans hx)) (al.out.ext (aa.out.trans hx)) (small_ps h).1 (small_ps h).2.1 (small_ps h).2.2.1 (small_ps h).2.2.2.1 (small_ps h).2.2.2.2 (HG.out.ext (aa.out.trans hx)) (zbx _ _ _ _))
 have aj:=Za (fun (h:SmallP nm ns nc st se) (w':World) (hx:Ext (w.alloc (.cells #[.string ⟨nm.toArray⟩,.int .i64 g1,.int .i64 g2,.int .i64 g3,.int .i64 g4,.slice As ns cs,.slice Ac nc cc] 42)) w')=>zec nm g1 g2 g3 g4 As ns cs st Ac nc cc se w' (ap.out.ext (aa.out.trans hx)) (al.out.ext (aa.out.trans hx)) (small_ps h).1 (small_ps h).2.1 (small_ps h).2.2.1 (small_ps h).2.2.2.1 (small_ps h).2.2.2.2 (aA.out.ext (aa.out.trans hx)) (zbx _ _ _ _))
 unfold PtxR at ak aj
 obtain ⟨E,hE⟩:∃E,ptxE nm (gerr g1 g2 g3 g4) g1 g2 g3 g4 st se=E:=⟨_,rfl⟩
 obtain ⟨T,hT⟩:∃T,ptxV nm (gerr g1 g2 g3 g4) g1 g2 g3 g4 st se=T:=⟨_,rfl⟩
 rw [hE,hT] at ak aj
 clear hE hT
 cases hp:patP atoiO gerr s with
 | none =>
  have an:=Za (fun (w':World) (hx:Ext (w.alloc (.cells #[.string ⟨nm.toArray⟩,.int .i64 g1,.int .i64 g2,.int .i64 g3,.int .i64 g4,.slice As ns cs,.slice Ac nc cc] 42)) w')=>(zd8 s (by omega) w' (HG.out.ext (aa.out.trans hx))).mono fun _ _ h=>par_none hp h)
  have ao:=Za (fun (w':World)=>(zdI s (by omega) w').mono fun _ _ h=>par_none hp h)
  clear hp
  go_enter Tryz.func4,Tryz.ntmps4
  go_wp2_with (first
   | (go_at_call 15;((with_reducible refine (am.out _ (HE.out.trans zx)).mono ?_);rintro e w3 ⟨⟨b,rfl,hb⟩,ab⟩;have ae:=Za hb;clear hb;replace HE:=Za (HE.out.trans (Zi zx ab:Ext _ w3));clear ab;obtain ⟨y0,y1,y2,y3,y4,y5,y6,yz⟩:=(ac.out.ext HE.out).facts;cases b))
   | (go_at_call 16;((with_reducible refine (ak.out (ae.out (by simp)) _ (HE.out.trans zx)).mono ?_);rintro e w4 ⟨rfl,af⟩;replace HE:=Za (HE.out.trans (Zi zx af:Ext _ w4));clear af;obtain ⟨y0,y1,y2,y3,y4,y5,y6,yz⟩:=(ac.out.ext HE.out).facts))
   | (go_at_call 17;((with_reducible refine (aj.out (ae.out (by simp)) _ (HE.out.trans zx)).mono ?_);rintro e w5 ⟨rfl,ag⟩;replace HE:=Za (HE.out.trans (Zi zx ag:Ext _ w5));clear ag;obtain ⟨y0,y1,y2,y3,y4,y5,y6,yz⟩:=(ac.out.ext HE.out).facts))
   | (go_at_call 18;((with_reducible refine (an.out _ (HE.out.trans zx)).mono ?_);rintro e w6 ⟨rfl,ah⟩;have aq:=Za (BoxP.start w6 [] 0 0 0 0 none 0 0 none 0 0);replace HE:=Za (HE.out.trans (Zi zx ah:Ext _ w6));clear ah))
   | (go_at_call 19;((with_reducible refine (ao.out _).mono ?_);rintro e w7 ⟨rfl,ad⟩;obtain ⟨k0,k1,k2,k3,k4,k5,k6,kz⟩:=(aq.out.ext ad).facts;replace HE:=Za (HE.out.trans (Zi zx ad:Ext _ w7));clear ad))
   | (go_at_call 20;((with_reducible refine (psame_nil _).mono ?_);rintro e w8 ⟨rfl,ai⟩;replace HE:=Za (HE.out.trans (Zi zx ai:Ext _ w8));clear ai)))
  all_goals (go_ret;exact ⟨by first | rfl | simp,aa.out.trans HE.out⟩)
 | some q =>
  have aB:=Za (pat_stl ((zhX zfi zbx).1 hp).2.1)
  have an:=Za (fun (w':World) (hx:Ext (w.alloc (.cells #[.string ⟨nm.toArray⟩,.int .i64 g1,.int .i64 g2,.int .i64 g3,.int .i64 g4,.slice As ns cs,.slice Ac nc cc] 42)) w')=>(zd8 s (by omega) w' (HG.out.ext (aa.out.trans hx))).mono fun _ _ h=>par_some hp h)
  have ao:=Za (fun (w':World)=>(zdI s (by omega) w').mono fun _ _ h=>par_some hp h)
  clear hp
  go_enter Tryz.func4,Tryz.ntmps4
  go_wp2_with (first
   | (go_at_call 15;((with_reducible refine (am.out _ (HE.out.trans zx)).mono ?_);rintro e w3 ⟨⟨b,rfl,hb⟩,ab⟩;have ae:=Za hb;clear hb;replace HE:=Za (HE.out.trans (Zi zx ab:Ext _ w3));clear ab;obtain ⟨y0,y1,y2,y3,y4,y5,y6,yz⟩:=(ac.out.ext HE.out).facts;cases b))
   | (go_at_call 16;((with_reducible refine (ak.out (ae.out (by simp)) _ (HE.out.trans zx)).mono ?_);rintro e w4 ⟨rfl,af⟩;replace HE:=Za (HE.out.trans (Zi zx af:Ext _ w4));clear af;obtain ⟨y0,y1,y2,y3,y4,y5,y6,yz⟩:=(ac.out.ext HE.out).facts))
   | (go_at_call 17;((with_reducible refine (aj.out (ae.out (by simp)) _ (HE.out.trans zx)).mono ?_);rintro e w5 ⟨rfl,ag⟩;replace HE:=Za (HE.out.trans (Zi zx ag:Ext _ w5));clear ag;obtain ⟨y0,y1,y2,y3,y4,y5,y6,yz⟩:=(ac.out.ext HE.out).facts))
   | (go_at_call 18;((with_reducible refine (an.out _ (HE.out.trans zx)).mono ?_);rintro e w6 ⟨A6,C6,a6,b6,rfl,ah,aw,au⟩;have aC:=Za aw;have ay:=Za au;have aq:=Za (BoxP.start w6 q.nm q.g1 q.g2 q.g3 q.g4 A6 q.st.length a6 C6 q.se.length b6);replace HE:=Za (HE.out.trans (Zi zx ah:Ext _ w6));clear ah aw au))
   | (go_at_call 19;((with_reducible refine (ao.out _).mono ?_);rintro e w7 ⟨A7,C7,a7,b7,rfl,ad,ax,av⟩;have aD:=Za ax;have az:=Za av;obtain ⟨k0,k1,k2,k3,k4,k5,k6,kz⟩:=(aq.out.ext ad).facts;have ar:=Za (Zi zx ad:Ext w6 w7);replace HE:=Za (HE.out.trans ar.out);clear ad ax av))
   | (go_at_call 20;((with_reducible refine (zfK q.nm q.g1 q.g2 q.g3 q.g4 A6 A7 q.st.length a6 a7 q.st C6 C7 q.se.length b6 b7 q.se _ (aC.out.ext (ar.out.trans zx)) (ay.out.ext (ar.out.trans zx)) (aD.out.ext zx) (az.out.ext zx) aB.out).mono ?_);rintro e w8 ⟨rfl,ai⟩;replace HE:=Za (HE.out.trans (Zi zx ai:Ext _ w8));clear ai)))
  all_goals (go_ret;exact ⟨by first | rfl | simp,aa.out.trans HE.out⟩)
set_option maxRecDepth 100000 in
theorem patternTexts_lifted (os:Os) (started:os.Started) (H:Type) (enc:TypeId×Value->H) :
  ReturnsInHanded {} Tryz.checked os 4 .any (fun w args=>(Rows.patternTextsSpec.pre enc Tryz.prog Tryz.f4 [] false w args/\laidMetH Tryz.prog [("math/bits.deBruijn32tab",Rows.laid_math_bits_deBruijn32tab),("math/bits.deBruijn64tab",Rows.laid_math_bits_deBruijn64tab),("internal/strconv.uint64pow10",Rows.laid_internal_strconv_uint64pow10),("unicode/utf8.acceptRanges",Rows.laid_unicode_utf8_acceptRanges),("strconv.ErrRange",Rows.laid_strconv_ErrRange),("strconv.ErrSyntax",Rows.laid_strconv_ErrSyntax),("unicode/utf8.first",Rows.laid_unicode_utf8_first)] w)/\sizedMet enc Tryz.prog Tryz.f4 (OpenSpec.ofChange Rows.patternTextsSpec) false w args)
   (Rows.patternTextsSpec.post enc Tryz.prog Tryz.f4 false true false false):=by
 refine zfS (C:=Tryz.checked) (X:=fun w _=>laidMetH Tryz.prog [("math/bits.deBruijn32tab",Rows.laid_math_bits_deBruijn32tab),("math/bits.deBruijn64tab",Rows.laid_math_bits_deBruijn64tab),("internal/strconv.uint64pow10",Rows.laid_internal_strconv_uint64pow10),("unicode/utf8.acceptRanges",Rows.laid_unicode_utf8_acceptRanges),("strconv.ErrRange",Rows.laid_strconv_ErrRange),("strconv.ErrSyntax",Rows.laid_strconv_ErrSyntax),("unicode/utf8.first",Rows.laid_unicode_utf8_first)] w) (fun _ _ _ hh h=>h.of_heap hh) own started (by kernel_rfl) Tryz.func4
  (ChangeSpec.witness_shaped (enc:=enc) (C:=Tryz.checked) (os:=os) (X:=fun w _=>laidMetH Tryz.prog [("math/bits.deBruijn32tab",Rows.laid_math_bits_deBruijn32tab),("math/bits.deBruijn64tab",Rows.laid_math_bits_deBruijn64tab),("internal/strconv.uint64pow10",Rows.laid_internal_strconv_uint64pow10),("unicode/utf8.acceptRanges",Rows.laid_unicode_utf8_acceptRanges),("strconv.ErrRange",Rows.laid_strconv_ErrRange),("strconv.ErrSyntax",Rows.laid_strconv_ErrSyntax),("unicode/utf8.first",Rows.laid_unicode_utf8_first)] w) false (World.laidAll Tryz.prog os [("math/bits.deBruijn32tab",Rows.laid_math_bits_deBruijn32tab),("math/bits.deBruijn64tab",Rows.laid_math_bits_deBruijn64tab),("internal/strconv.uint64pow10",Rows.laid_internal_strconv_uint64pow10),("unicode/utf8.acceptRanges",Rows.laid_unicode_utf8_acceptRanges),("strconv.ErrRange",Rows.laid_strconv_ErrRange),("strconv.ErrSyntax",Rows.laid_strconv_ErrSyntax),("unicode/utf8.first",Rows.laid_unicode_utf8_first)]) #[.agg #[.string ⟨#[]⟩,.int .i64 0,.int .i64 0,.int .i64 0,.int .i64 0,.slice none 0 0,.slice none 0 0],.string ⟨#[]⟩] 8 (World.laidAll_os _ _ _)
   (World.shaped_of_ZipB (by kernel_rfl) (by kernel_rfl)) (by kernel_rfl) (by kernel_rfl) (by kernel_rfl)
   (by rw [MakeChecks.laidMetH_plain _ _ _ (by kernel_rfl)];exact laidMet_laidAll _ (by kernel_rfl) (by kernel_rfl))) ?_
 intro W base args ds gs before ab hW hL ae
 have aa:∀(j:Nat) t v,Tryz.f4.params[j]?=some t->args[j]?=some v->Value.okWide Tryz.prog W .any base t v:=ab
 have ad:=hW
 obtain ⟨p,q,ac,hV,rfl,hfz,hnd⟩:=hW
 have hA:DataW.TrodAll enc Tryz.prog W 0 (fun _=>true) true Tryz.f4.params.toList args.toList ds p:=ac
 rw [Tryz.params4] at hA aa
 obtain ⟨v0,vs0,d0,ds0,p0,q0,hargs,rfl,rfl,h0,r0⟩:=trodAll_cons hA
 obtain ⟨v1,vs1,d1,ds1,p1,q1,rfl,rfl,rfl,h1,r1⟩:=trodAll_cons r0
 obtain ⟨rfl,rfl,rfl⟩:=trodAll_nil r1
 obtain rfl:args=#[v0,v1]:=by cases args;simp_all
 obtain ⟨rfl,rfl⟩:=trodVars_none hV
 obtain ⟨qnm,qg1,qg2,qg3,qg4,qAs,qns,qcs,qst,qAc,qnc,qcc,qse,rfl,qh1,qh2,qh3,qh4,qh5⟩:=zeH (aa 0 42 v0 rfl rfl) h0
 obtain ⟨sB,rfl, -, -, -⟩:=ChangeMaps.open_string Tryz.underlying9 (aa 1 9 v1 rfl rfl) h1
 obtain ⟨s,rfl⟩:∃l:List UInt8,sB=⟨l.toArray⟩:=⟨sB.data.toList,by simp⟩
 rw [MakeChecks.laidMetH_plain _ _ _ (by kernel_rfl)] at hL
 have hG:=znV hL ae
 refine (patternTexts_walk qnm qg1 qg2 qg3 qg4 qAs qns qcs qst qAc qnc qcc qse s W qh1 qh2 qh3 qh4 hG).mono fun e W' ⟨he,hg⟩=>?_
 subst he
 exact ⟨_,rfl,zmc zmb rfl Tryz.underlying4 (by kernel_rfl) rfl ad rfl hg⟩
theorem patternTexts_holds:Rows.PatternTextsSaid :=
 OpenClaim.holds_of_wide 4 Tryz.f4 rfl rfl rfl rfl rfl rfl rfl ⟨rfl,rfl,rfl,rfl,rfl⟩ rfl rfl rfl rfl rfl (by kernel_rfl) Tryz.func4 (by kernel_rfl)
  (of_decide_eq_true (by kernel_rfl)) (by unfold Func.isWrapper;first | (rw [if_pos (by decide +kernel)];kernel_rfl) | (rw [if_neg (by decide +kernel)];exact ⟨rfl,rfl⟩))
  (fun os started H enc _=>patternTexts_lifted os started H enc)
theorem patternTexts_card:Rows.PatternTextsCardSaid :=
 Claim7.holds_tied_plain_at .later [] [.data,.data,.data,.data,.sentinel,.sentinel,.pinned] true (true, "82ac2ac690227137bd2922f134a4e9e2379fe122be6281254703ee86f1f41d35") true
  patternTexts_holds (fun _ h=>by cases h) (by kernel_rfl) (fun _ h=>by cases h) patternTexts_row_tie rfl ⟨rfl,rfl⟩ (by kernel_rfl) rfl
  (fun f fn hf hfn=>by
   obtain rfl:f=4:=Z8 ((show Tryz.prog.funcNamed "raddle/raddlelaw43.PatternTexts" = some 4 by kernel_rfl).symm.trans hf) |>.symm
   obtain rfl:fn=Tryz.f4:=(Z8 (Tryz.func4.symm.trans hfn)).symm
   exact ⟨by kernel_rfl,fun j t ht=>by
    rw [Tryz.params4] at ht
    have hm:t∈[42,9]:=by simpa using Array.mem_of_getElem? ht
    have hall:([42,9].all fun u => !Tryz.prog.wantsStandIn u)=true:=by kernel_rfl
    exact (show Tryz.prog.wantsStandIn t=false by simpa using Zq.1 hall t hm)⟩)
  (by kernel_rfl)
end Go.Proofs.YtkneghkbgingdaaGreatDoor
