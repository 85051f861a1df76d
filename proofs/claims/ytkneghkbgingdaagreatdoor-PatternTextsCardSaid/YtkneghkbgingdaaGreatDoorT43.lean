/- The reference's Same of two patterns that read alike. -/
import Derived.Test.YtkneghkbgingdaaGreatDoorT20
import Derived.Test.YtkneghkbgingdaaGreatDoorTie
set_option maxHeartbeats 16000000
namespace Go.Proofs.YtkneghkbgingdaaGreatDoor
set_option maxRecDepth 100000
open Go.RowKit Go.ChangeShapes Go.WideShapes Go.Joins
theorem zfK (nm:List UInt8) (g1 g2 g3 g4:Int) (As Bs:Option Addr) (ns cs ds:Nat) (st:List Stf) (Ac Bc:Option Addr) (nc cc dc:Nat) (se:List Sec) (w:World) (hs:Vec shStf w As ns st) (hc:Secs w Ac nc se)
  (hs2:Vec shStf w Bs ns st) (hc2:Secs w Bc nc se) (hns:ns<=1000000) :
  Calls Tryz.prog 20 #[.agg #[.string ⟨nm.toArray⟩,.int .i64 g1,.int .i64 g2,.int .i64 g3,.int .i64 g4,.slice As ns cs,.slice Ac nc cc],.agg #[.string ⟨nm.toArray⟩,.int .i64 g1,.int .i64 g2,.int .i64 g3,.int .i64 g4,.slice Bs ns ds,.slice Bc nc dc]] w fun e w'=>e = .returned (.bool true)/\Ext w w':=by
 have ao:=hc.1
 unfold maxLen at ao
 have HS:=Za hs
 have HC:=Za hc
 have al:=Za hs2
 have ah:=Za hc2
 have ac:=Za ((BoxP.start w nm g1 g2 g3 g4 As ns cs Ac nc cc).ext ((Zf _).alloc (.cells #[.string ⟨nm.toArray⟩,.int .i64 g1,.int .i64 g2,.int .i64 g3,.int .i64 g4,.slice Bs ns ds,.slice Bc nc dc] 42)))
 have ab:=Za (BoxP.start (w.alloc (.cells #[.string ⟨nm.toArray⟩,.int .i64 g1,.int .i64 g2,.int .i64 g3,.int .i64 g4,.slice As ns cs,.slice Ac nc cc] 42)) nm g1 g2 g3 g4 Bs ns ds Bc nc dc)
 rw [World.size_alloc] at ab
 have aa:=Za (((Zf w).alloc (.cells #[.string ⟨nm.toArray⟩,.int .i64 g1,.int .i64 g2,.int .i64 g3,.int .i64 g4,.slice As ns cs,.slice Ac nc cc] 42)).alloc (.cells #[.string ⟨nm.toArray⟩,.int .i64 g1,.int .i64 g2,.int .i64 g3,.int .i64 g4,.slice Bs ns ds,.slice Bc nc dc] 42))
 clear hs hc hs2 hc2
 obtain ⟨WB,ad⟩:∃W,(w.alloc (.cells #[.string ⟨nm.toArray⟩,.int .i64 g1,.int .i64 g2,.int .i64 g3,.int .i64 g4,.slice As ns cs,.slice Ac nc cc] 42)).alloc (.cells #[.string ⟨nm.toArray⟩,.int .i64 g1,.int .i64 g2,.int .i64 g3,.int .i64 g4,.slice Bs ns ds,.slice Bc nc dc] 42)=W:=⟨_,rfl⟩
 rw [ad] at ac ab aa
 have am:=Za ad
 clear ad
 go_enter Tryz.func20,Tryz.ntmps20
 go_wp2_with fail
 go_loopw [5] (fun i wr=>∃(k:Nat),i = .int .i64 (k:Int)/\k<=ns/\Hid (Ext WB wr)) (fun i _=>ns-(intOf i).toNat)
 case atStart=>exact ⟨0,rfl,Zy _,Za (by rw [<-am.out];repeat (first|exact zr _|assumption|refine za ?_ _|refine zd ?_|refine zn ?_ _|refine zt ?_ (by assumption)))⟩
 case round =>
  obtain ⟨k,rfl,hk,HE⟩:=hrel
  obtain ⟨wq,rfl⟩:∃wq:World,wq=wr:=⟨_,rfl⟩
  obtain ⟨x0,x1,x2,x3,x4,x5,x6,xz⟩:=(ac.out.ext HE.out).facts
  obtain ⟨y0,y1,y2,y3,y4,y5,y6,yz⟩:=(ab.out.ext HE.out).facts
  by_cases hlt:k<ns
  ·obtain ⟨b,off,rfl,hb,c0,c1⟩:=Stf.at_ (HS.out.ext (aa.out.trans HE.out)) hlt
   obtain ⟨b',off',rfl,an,e0,e1⟩:=Stf.at_ (al.out.ext (aa.out.trans HE.out)) hlt
   have q0:(0:Int)<=(k:Int):=by omega
   have q1:(k:Int)<(ns:Int):=by omega
   generalize stN st k=Y at *
   generalize (st.getD k stf0).g=G at *
   go_wp2_with fail
   go_region_held3 (fun w'=>w'.cell? ⟨w.heap.size,5,none⟩=some (.slice (some ⟨b,off,none⟩) ns cs)/\w'.cell? ⟨w.heap.size+1,5,none⟩=some (.slice (some ⟨b',off',none⟩) ns ds)/\w'.cell? ⟨b,off+k*2,none⟩=some (.string ⟨Y.toArray⟩)/\w'.cell? ⟨b,off+k*2+1,none⟩=some (.int .i64 G)/\w'.cell? ⟨b',off'+k*2,none⟩=some (.string ⟨Y.toArray⟩)/\w'.cell? ⟨b',off'+k*2+1,none⟩=some (.int .i64 G)) (go_keep) (first | fail)
   go_wp2
   go_roundw
   case rel=>exact ⟨k+1,by go_num,by omega,Za (by have h9:=HE.out;repeat (first|exact zr _|assumption|refine za ?_ _|refine zd ?_|refine zn ?_ _|refine zt ?_ (by assumption)))⟩
   case measure=>simp [intOf];omega
  ·obtain rfl:k=ns:=by omega
   go_wp2_with fail
   have ai:=HE
   clear x0 x1 x2 x3 x4 x5 x6 xz y0 y1 y2 y3 y4 y5 y6 yz
   go_loopw [6] (fun i wr=>∃(k:Nat),i = .int .i64 (k:Int)/\k<=nc/\Hid (Ext WB wr)) (fun i _=>nc-(intOf i).toNat)
   case atStart=>exact ⟨0,rfl,Zy _,Za (by have h9:=ai.out;repeat (first|exact zr _|assumption|refine za ?_ _|refine zd ?_|refine zn ?_ _|refine zt ?_ (by assumption)))⟩
   case round =>
    obtain ⟨k,rfl,hk,HE⟩:=hrel
    obtain ⟨wz,rfl⟩:∃wz:World,wz=wr:=⟨_,rfl⟩
    obtain ⟨x0,x1,x2,x3,x4,x5,x6,xz⟩:=(ac.out.ext HE.out).facts
    obtain ⟨y0,y1,y2,y3,y4,y5,y6,yz⟩:=(ab.out.ext HE.out).facts
    by_cases hlt:k<nc
    ·obtain ⟨b,off,A1,n1,z1,rfl,hb,c0,c1,c2,af, -⟩:=(HC.out.ext (aa.out.trans HE.out)).at_ hlt
     obtain ⟨b',off',A2,n2,z2,rfl,an,e0,e1,e2,ag, -⟩:=(ah.out.ext (aa.out.trans HE.out)).at_ hlt
     have q0:(0:Int)<=(k:Int):=by omega
     have q1:(k:Int)<(nc:Int):=by omega
     generalize seN se k=Y at *
     generalize (se.getD k sec0).s=G at *
     generalize (se.getD k sec0).rows=R at *
     have aj:=Za af
     have ak:=Za ag
     clear af ag
     go_wp2_with fail
     go_region_held3 (fun w'=>w'.cell? ⟨w.heap.size,6,none⟩=some (.slice (some ⟨b,off,none⟩) nc cc)/\w'.cell? ⟨w.heap.size+1,6,none⟩=some (.slice (some ⟨b',off',none⟩) nc dc)/\w'.cell? ⟨b,off+k*3,none⟩=some (.string ⟨Y.toArray⟩)/\w'.cell? ⟨b',off'+k*3,none⟩=some (.string ⟨Y.toArray⟩)/\w'.cell? ⟨b,off+k*3+1,none⟩=some (.int .i64 G)/\w'.cell? ⟨b',off'+k*3+1,none⟩=some (.int .i64 G)/\w'.cell? ⟨b,off+k*3+1+1,none⟩=some (.slice A1 n1 z1)/\w'.cell? ⟨b',off'+k*3+1+1,none⟩=some (.slice A2 n2 z2)) (go_keep)
      (first | (go_at_call 14;((with_reducible refine (ziT G G A1 A2 n1 n2 z1 z2 R R _ (aj.out.ext zx) (ak.out.ext zx)).mono ?_);rintro e w1 ⟨rfl,hq1⟩;rw [zf2];have ae:Ext wz w1:=(zx);obtain ⟨hg1,hg2,hg3⟩:=ae.facts)))
     go_wp2
     go_roundw
     case rel=>exact ⟨k+1,by go_num,by omega,Za (HE.out.trans ae)⟩
     case measure=>simp [intOf];omega
    ·obtain rfl:k=nc:=by omega
     go_wp2_with fail
     go_ret
     exact ⟨rfl,aa.out.trans HE.out⟩
end Go.Proofs.YtkneghkbgingdaaGreatDoor
/- What the rows' listed variables give. -/
namespace Go.Proofs.YtkneghkbgingdaaGreatDoor
set_option maxRecDepth 100000
open Go.ChangeShapes Go.WideShapes Go.ChangeAt Go.RowKit
theorem zib : "*" ++ "errors.errorString" = "*errors.errorString" := by decide
theorem zkU (u:TypeId) (h:Tryz.prog.typeName? 3 u=some "*errors.errorString"):u=260 :=
 typeName_ptr_named (nm := "errors.errorString") (by rw [zib];kernel_rfl) (by kernel_rfl) (by decide) u (by rw [zib];exact h)
theorem zoa:Rows.laid_internal_strconv_uint64pow10 (H:=Unit)=Lib.tabData .u64 Lib.pow10Tab:=by rfl
theorem znV {W:World} (hL:laidMet Tryz.prog [("math/bits.deBruijn32tab",Rows.laid_math_bits_deBruijn32tab),("math/bits.deBruijn64tab",Rows.laid_math_bits_deBruijn64tab),("internal/strconv.uint64pow10",Rows.laid_internal_strconv_uint64pow10),("unicode/utf8.acceptRanges",Rows.laid_unicode_utf8_acceptRanges),("strconv.ErrRange",Rows.laid_strconv_ErrRange),("strconv.ErrSyntax",Rows.laid_strconv_ErrSyntax),("unicode/utf8.first",Rows.laid_unicode_utf8_first)] W) (hsh:W.ShapedOpen Tryz.prog):Glob W:=by
 have h1:=laidMet.tail (laidMet.tail hL)
 have h2:=laidMet.tail (laidMet.tail h1)
 have h3:=laidMet.tail h2
 rw [zoa] at h1
 refine ⟨Lib.tabIs_of_head (g:=1) (t:=221) (e:=179) (n:=20) (by kernel_rfl) (by kernel_rfl) (by kernel_rfl) (by kernel_rfl) (by kernel_rfl) (by kernel_rfl) h1,?_,?_,Tryz.laysM146.s1_3 W hsh⟩
 ·obtain ⟨a,s,h, -⟩:=laid_sentinel (g:=2) (ti:=83) (tp:=260) (te:=262) (ts:=9) h3 (by kernel_rfl) (by kernel_rfl) Tryz.underlying83 zkU (by kernel_rfl) Tryz.underlying262 rfl rfl (by kernel_rfl) (by kernel_rfl) (by kernel_rfl)
  exact ⟨_,_,h⟩
 ·obtain ⟨a,s,h, -⟩:=laid_sentinel (g:=3) (ti:=83) (tp:=260) (te:=262) (ts:=9) h2 (by kernel_rfl) (by kernel_rfl) Tryz.underlying83 zkU (by kernel_rfl) Tryz.underlying262 rfl rfl (by kernel_rfl) (by kernel_rfl) (by kernel_rfl)
  exact ⟨_,_,h⟩
end Go.Proofs.YtkneghkbgingdaaGreatDoor
