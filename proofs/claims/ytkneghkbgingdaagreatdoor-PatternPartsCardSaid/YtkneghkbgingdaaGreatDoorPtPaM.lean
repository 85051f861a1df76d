/- Section finds each section by its name, and a pattern with only one of the sections has the same materials, and not a longer text; for any valid pattern, and a number of a section. -/
import Derived.Test.YtkneghkbgingdaaGreatDoorK47
import Derived.Test.YtkneghkbgingdaaGreatDoorCards
namespace Go.Proofs.YtkneghkbgingdaaGreatDoor
set_option maxHeartbeats 16000000
set_option maxRecDepth 100000
open Go.ChangeShapes Go.WideShapes Go.ChangeAt Go.RowKit Go.Joins
theorem Secs.one {w:World} {b off n:Nat} {l:List Sec} (h:Secs w (some ⟨b,off,none⟩) n l) {k:Nat} (hk:k<n):Secs w (some ⟨b,off+k*3,none⟩) 1 [l.getD k sec0]:=by
 have hl:=h.len
 obtain ⟨h0,xs,h1,h2,h3⟩:=h
 obtain ⟨b',off',e,hlt,hc⟩:=h1.2 (by omega)
 cases e
 have hx:xs[k]?=some (xs.getD k rsec0):=by
  rw [Zc,Zg (by omega)];rfl
 refine ⟨by unfold maxLen;omega,[xs.getD k rsec0],⟨rfl,fun _=>⟨b,_,rfl,hlt,fun j x hj i u hu=>?_⟩⟩,rfl,fun j hj=>?_⟩
 ·have hj0:j=0:=by
   have:=(ZO.1 hj).1
   simp at this
   exact this
  subst hj0
  simp at hj
  subst hj
  have h9:=hc k _ hx i u hu
  have e1:off+k*shSec.size+i=off+k*3+0*shSec.size+i:=by show off+k*3+i=off+k*3+0*3+i;omega
  have e2:off+(k*shSec.size+i)=off+k*3+(0*shSec.size+i):=by show off+(k*3+i)=off+k*3+(0*3+i);omega
  first | exact h9 | (rw [←e1];exact h9) | (rw [←e2];exact h9)
 ·have hj0:j=0:=by simpa using hj
  subst hj0
  exact h3 k (by omega)
def BoxA (w:World) (p:Nat) (s:Int) (v:Value):Prop:=w.cell? ⟨p,0,none⟩=some (.int .i64 s)∧w.cell? ⟨p,1,none⟩=some v∧p<w.heap.size
theorem BoxA.ext {w w':World} {p:Nat} {s:Int} {v:Value} (h:BoxA w p s v) (hb:Ext w w'):BoxA w' p s v :=
 ⟨(Zm (p:=⟨p,0,none⟩) hb h.2.2).trans h.1,(Zm (p:=⟨p,1,none⟩) hb h.2.2).trans h.2.1,Zt h.2.2 (Zr hb)⟩
theorem BoxA.new_ (w:World) (s:Int) (v:Value) (t:TypeId):BoxA (w.alloc (.cells #[.int .i64 s,v] t)) w.heap.size s v:=⟨by simp [go_sem],by simp [go_sem],by simp⟩
theorem parts_case {nm:List UInt8} {ge g1 g2 g3 g4:Int} {st:List Stf} {se:List Sec} {k:Nat} (hv:patE nm ge st se=0) (hk:k<se.length) :
  (ptxE nm ge g1 g2 g3 g4 st [se.getD k sec0]=0∧ptxE nm ge g1 g2 g3 g4 st se=0∧((ptxV nm ge g1 g2 g3 g4 st [se.getD k sec0]).length:Int)≤((ptxV nm ge g1 g2 g3 g4 st se).length:Int)∧(1:Int)<(se.length:Int)) ∨
  (ptxE nm ge g1 g2 g3 g4 st [se.getD k sec0]=0∧ptxE nm ge g1 g2 g3 g4 st se=0∧¬(1:Int)<(se.length:Int)∧ptxV nm ge g1 g2 g3 g4 st [se.getD k sec0]=ptxV nm ge g1 g2 g3 g4 st se) ∨
  (ptxE nm ge g1 g2 g3 g4 st [se.getD k sec0]=0∧ptxE nm ge g1 g2 g3 g4 st se=4)∨(ptxE nm ge g1 g2 g3 g4 st [se.getD k sec0]=4∧ptxE nm ge g1 g2 g3 g4 st se=4):=by
 rcases znM (g1:=g1) (g2:=g2) (g3:=g3) (g4:=g4) hv with h | h
 ·obtain ⟨h1,h2,h3⟩:=zmx hv hk h
  by_cases hn:1<se.length
  ·exact .inl ⟨h1,h,by omega,by omega⟩
  ·exact .inr (.inl ⟨h1,h,by omega,h3 (by omega)⟩)
 ·rcases znM (g1:=g1) (g2:=g2) (g3:=g3) (g4:=g4) (ziW hv hk).1 with h1 | h1
  ·exact .inr (.inr (.inl ⟨h1,h⟩))
  ·exact .inr (.inr (.inr ⟨h1,h⟩))
theorem small_up {nm:List UInt8} {ns nc:Nat} {st:List Stf} {se:List Sec} (h:SmallP nm ns nc st se):nm.length≤100000∧(∀i,i<ns→(stN st i).length≤100000)∧(∀i,i<nc→(seN se i).length≤100000)∧ns≤10000∧nc≤10000 :=
 ⟨by have:=h.2.2.1;omega,fun i hi=>by have:=h.2.2.2.1 i hi;omega,fun i hi=>by have:=h.2.2.2.2 i hi;omega,by have:=h.1;omega,by have:=h.2.1;omega⟩
theorem patternParts_walk (nm:List UInt8) (g1 g2 g3 g4:Int) (As:Option Addr) (ns cs:Nat) (st:List Stf) (Ac:Option Addr) (nc cc:Nat) (se:List Sec) (i:Int) (w:World) (hs:Vec shStf w As ns st) (hsm:ns≤maxLen) (hc:Secs w Ac nc se) (hcap:nc≤cc) (hg:Glob w) :
  Calls Tryz.prog 8 #[.agg #[.string ⟨nm.toArray⟩,.int .i64 g1,.int .i64 g2,.int .i64 g3,.int .i64 g4,.slice As ns cs,.slice Ac nc cc],.int .i64 i] w fun e w'=>e = .returned (.bool true)∧Ext w w':=by
 have HLS:=Za hs.1
 have HLC:=Za hc.len
 have HSV:=Za hs
 have HCV:=Za hc
 have HG:=Za hg
 have HBX:=Za (BoxP.start w nm g1 g2 g3 g4 As ns cs Ac nc cc)
 have HW0:=Za (show Ext w (w.alloc (.cells #[.string ⟨nm.toArray⟩,.int .i64 g1,.int .i64 g2,.int .i64 g3,.int .i64 g4,.slice As ns cs,.slice Ac nc cc] 42)) from (Zd w).alloc _)
 have HAL:=Za (fun (w':World) (hx:Ext (w.alloc (.cells #[.string ⟨nm.toArray⟩,.int .i64 g1,.int .i64 g2,.int .i64 g3,.int .i64 g4,.slice As ns cs,.slice Ac nc cc] 42)) w')=>zaS w' (HG.out.ext (HW0.out.trans hx)))
 have HGR:=Za (fun (w':World) (hx:Ext (w.alloc (.cells #[.string ⟨nm.toArray⟩,.int .i64 g1,.int .i64 g2,.int .i64 g3,.int .i64 g4,.slice As ns cs,.slice Ac nc cc] 42)) w')=>za3 nm g1 g2 g3 g4 As ns cs st Ac nc cc se w' (HSV.out.ext (HW0.out.trans hx)) hsm (HCV.out.ext (HW0.out.trans hx)))
 have HCK:=Za (fun (h:SmallP nm ns nc st se) (w':World) (hx:Ext (w.alloc (.cells #[.string ⟨nm.toArray⟩,.int .i64 g1,.int .i64 g2,.int .i64 g3,.int .i64 g4,.slice As ns cs,.slice Ac nc cc] 42)) w')=>zgb nm g1 g2 g3 g4 As ns cs st Ac nc cc se w' (HSV.out.ext (HW0.out.trans hx)) (HCV.out.ext (HW0.out.trans hx)) (small_up h).1 (small_up h).2.1 (small_up h).2.2.1 (small_up h).2.2.2.1 (small_up h).2.2.2.2)
 clear hs hc hg hsm
 obtain ⟨ge,hge⟩:∃ge,gerr g1 g2 g3 g4=ge:=⟨_,rfl⟩
 obtain ⟨v,hv⟩:∃v,patE nm ge st se=v:=⟨_,rfl⟩
 rw [hge,hv] at HCK
 by_cases h0:v≠0
 ·have hne:(v != 0)=true:=by simpa using h0
  clear h0 hv hge
  go_enter Tryz.func8,Tryz.ntmps8
  go_wp2_with (first
   | (go_at_call 29;((with_reducible refine (HAL.out _ zx).mono ?_);rintro e w1 ⟨rfl,hq1⟩;have HE1:=Za (zx:Ext (w.alloc (.cells #[.string ⟨nm.toArray⟩,.int .i64 g1,.int .i64 g2,.int .i64 g3,.int .i64 g4,.slice As ns cs,.slice Ac nc cc] 42)) w1);obtain ⟨x0,x1,x2,x3,x4,x5,x6,xz⟩:=(HBX.out.ext HE1.out).facts))
   | (go_at_call 15;((with_reducible refine (HGR.out _ (HE1.out.trans zx)).mono ?_);rintro e w2 ⟨⟨b,rfl,hb⟩,hq2⟩;have HSM:=Za hb;have HE2:=Za (HE1.out.trans (zx:Ext w1 w2));obtain ⟨x0,x1,x2,x3,x4,x5,x6,xz⟩:=(HBX.out.ext HE2.out).facts;clear hb;cases b))
   | (go_at_call 33;((with_reducible refine (HCK.out (HSM.out (by simp)) _ (HE2.out.trans zx)).mono ?_);rintro e w3 ⟨rfl,hq3⟩;have HE3:=Za (HE2.out.trans (zx:Ext w2 w3));obtain ⟨x0,x1,x2,x3,x4,x5,x6,xz⟩:=(HBX.out.ext HE3.out).facts)))
  all_goals (go_ret;exact ⟨rfl,by have h1:=HW0.out;have h2:=HE1.out;repeat (first|exact zr _|assumption|refine za ?_ _|refine zd ?_|refine zn ?_ _|refine zt ?_ (by assumption))⟩)
 have h0:=Classical.not_not.1 h0
 subst h0
 have hq0:((0:Int) != 0)=false:=rfl
 have hlc:se.length=nc:=HLC.out
 by_cases hi0:i<0
 ·clear hv hge
  go_enter Tryz.func8,Tryz.ntmps8
  go_wp2_with (first
   | (go_at_call 29;((with_reducible refine (HAL.out _ zx).mono ?_);rintro e w1 ⟨rfl,hq1⟩;have HE1:=Za (zx:Ext (w.alloc (.cells #[.string ⟨nm.toArray⟩,.int .i64 g1,.int .i64 g2,.int .i64 g3,.int .i64 g4,.slice As ns cs,.slice Ac nc cc] 42)) w1);obtain ⟨x0,x1,x2,x3,x4,x5,x6,xz⟩:=(HBX.out.ext HE1.out).facts))
   | (go_at_call 15;((with_reducible refine (HGR.out _ (HE1.out.trans zx)).mono ?_);rintro e w2 ⟨⟨b,rfl,hb⟩,hq2⟩;have HSM:=Za hb;have HE2:=Za (HE1.out.trans (zx:Ext w1 w2));obtain ⟨x0,x1,x2,x3,x4,x5,x6,xz⟩:=(HBX.out.ext HE2.out).facts;clear hb;cases b))
   | (go_at_call 33;((with_reducible refine (HCK.out (HSM.out (by simp)) _ (HE2.out.trans zx)).mono ?_);rintro e w3 ⟨rfl,hq3⟩;have HE3:=Za (HE2.out.trans (zx:Ext w2 w3));obtain ⟨x0,x1,x2,x3,x4,x5,x6,xz⟩:=(HBX.out.ext HE3.out).facts)))
  all_goals (go_ret;exact ⟨rfl,by have h1:=HW0.out;have h2:=HE1.out;repeat (first|exact zr _|assumption|refine za ?_ _|refine zd ?_|refine zn ?_ _|refine zt ?_ (by assumption))⟩)
 by_cases hi1:(nc:Int)≤i
 ·clear hv hge
  go_enter Tryz.func8,Tryz.ntmps8
  go_wp2_with (first
   | (go_at_call 29;((with_reducible refine (HAL.out _ zx).mono ?_);rintro e w1 ⟨rfl,hq1⟩;have HE1:=Za (zx:Ext (w.alloc (.cells #[.string ⟨nm.toArray⟩,.int .i64 g1,.int .i64 g2,.int .i64 g3,.int .i64 g4,.slice As ns cs,.slice Ac nc cc] 42)) w1);obtain ⟨x0,x1,x2,x3,x4,x5,x6,xz⟩:=(HBX.out.ext HE1.out).facts))
   | (go_at_call 15;((with_reducible refine (HGR.out _ (HE1.out.trans zx)).mono ?_);rintro e w2 ⟨⟨b,rfl,hb⟩,hq2⟩;have HSM:=Za hb;have HE2:=Za (HE1.out.trans (zx:Ext w1 w2));obtain ⟨x0,x1,x2,x3,x4,x5,x6,xz⟩:=(HBX.out.ext HE2.out).facts;clear hb;cases b))
   | (go_at_call 33;((with_reducible refine (HCK.out (HSM.out (by simp)) _ (HE2.out.trans zx)).mono ?_);rintro e w3 ⟨rfl,hq3⟩;have HE3:=Za (HE2.out.trans (zx:Ext w2 w3));obtain ⟨x0,x1,x2,x3,x4,x5,x6,xz⟩:=(HBX.out.ext HE3.out).facts)))
  all_goals (go_ret;exact ⟨rfl,by have h1:=HW0.out;have h2:=HE1.out;repeat (first|exact zr _|assumption|refine za ?_ _|refine zd ?_|refine zn ?_ _|refine zt ?_ (by assumption))⟩)
 obtain ⟨k,rfl⟩:∃k:Nat,i=(k:Int):=⟨i.toNat,by omega⟩
 have hk:k<nc:=by omega
 obtain ⟨o1,o2,o3⟩:=ziW hv (show k<se.length by omega)
 have hI:secI se (seN se k)=(k:Int):=ziK o2 (by omega) _ _ (Zu _) (by omega)
 have hSE:secE nm ge st se (seN se k)=0:=by rw [secE,if_neg (fun h9=>h9 hv),hI,if_neg (by omega)]
 have hSS:secS nm ge st se (seN se k)=(se.getD k sec0).s:=by rw [secS,if_pos hSE,hI];rfl
 have hSL:secL nm ge st se (seN se k)=(se.getD k sec0).rows:=by rw [secL,if_pos hSE,hI];rfl
 have HSC:=Za (fun (h:SmallP nm ns nc st se) (w':World) (hx:Ext (w.alloc (.cells #[.string ⟨nm.toArray⟩,.int .i64 g1,.int .i64 g2,.int .i64 g3,.int .i64 g4,.slice As ns cs,.slice Ac nc cc] 42)) w')=>zcV nm g1 g2 g3 g4 As ns cs st Ac nc cc se w' (seN se k) (HSV.out.ext (HW0.out.trans hx)) (HCV.out.ext (HW0.out.trans hx)) (small_up h).1 (small_up h).2.1 (small_up h).2.2.1 (small_up h).2.2.2.1 (small_up h).2.2.2.2)
 rw [hge,hSE,hSS,hSL] at HSC
 obtain ⟨b,off,A5,n5,c5,rfl,hb5,z0,z1,z2,hr5,hc5⟩:=HCV.out.at_ hk
 have HSO:=Za (HCV.out.one hk)
 have HR5:=Za hr5
 have HZ:=Za (And.intro hb5 (And.intro z0 (And.intro z1 z2)))
 obtain ⟨Y,hY⟩:∃Y,seN se k=Y:=⟨_,rfl⟩
 obtain ⟨S,hS⟩:∃S,(se.getD k sec0).s=S:=⟨_,rfl⟩
 obtain ⟨RR,hRR⟩:∃R,(se.getD k sec0).rows=R:=⟨_,rfl⟩
 rw [hS,hRR] at HSC
 rw [hRR] at HR5
 rw [hS] at HZ
 have HYY:=Za hY
 rw [hY] at HSC HZ
 have hk1:(k:Int)<(nc:Int):=by omega
 have hk0:(0:Int)≤(k:Int):=by omega
 have i1:=Zp ((k:Int)+1) ⟨by omega,by have:=HCV.out.1;unfold maxLen at this;omega⟩
 have hse1:[se.getD k sec0].length=1:=rfl
 have HTO:=Za (fun (h:SmallP nm ns nc st se) (w':World) (hx:Ext (w.alloc (.cells #[.string ⟨nm.toArray⟩,.int .i64 g1,.int .i64 g2,.int .i64 g3,.int .i64 g4,.slice As ns cs,.slice (some ⟨b,off,none⟩) nc cc] 42)) w')=>zbl nm g1 g2 g3 g4 As ns cs st (some ⟨b,off+k*3,none⟩) 1 (cc-k) [se.getD k sec0] w' (HSV.out.ext (HW0.out.trans hx)) (HSO.out.ext (HW0.out.trans hx)) (small_up h).1 (small_up h).2.1 (fun i hi=>by
  have hi0:i=0:=by omega
  subst hi0
  have:=(small_up h).2.2.1 k hk
  exact this) (small_up h).2.2.2.1 (by omega) (HG.out.ext (HW0.out.trans hx)) (zbe _ _ _ _))
 have HTA:=Za (fun (h:SmallP nm ns nc st se) (w':World) (hx:Ext (w.alloc (.cells #[.string ⟨nm.toArray⟩,.int .i64 g1,.int .i64 g2,.int .i64 g3,.int .i64 g4,.slice As ns cs,.slice (some ⟨b,off,none⟩) nc cc] 42)) w')=>zbl nm g1 g2 g3 g4 As ns cs st (some ⟨b,off,none⟩) nc cc se w' (HSV.out.ext (HW0.out.trans hx)) (HCV.out.ext (HW0.out.trans hx)) (small_up h).1 (small_up h).2.1 (small_up h).2.2.1 (small_up h).2.2.2.1 (small_up h).2.2.2.2 (HG.out.ext (HW0.out.trans hx)) (zbe _ _ _ _))
 have HGO:=Za (fun (h:SmallP nm ns nc st se) (w':World) (hx:Ext (w.alloc (.cells #[.string ⟨nm.toArray⟩,.int .i64 g1,.int .i64 g2,.int .i64 g3,.int .i64 g4,.slice As ns cs,.slice (some ⟨b,off,none⟩) nc cc] 42)) w')=>zbT nm g1 g2 g3 g4 As ns cs st (some ⟨b,off+k*3,none⟩) 1 (cc-k) [se.getD k sec0] w' (HSV.out.ext (HW0.out.trans hx)) (HSO.out.ext (HW0.out.trans hx)) (small_up h).1 (small_up h).2.1 (fun i hi=>by
  have hi0:i=0:=by omega
  subst hi0
  have:=(small_up h).2.2.1 k hk
  exact this) (small_up h).2.2.2.1 (by omega))
 have HGA:=Za (fun (h:SmallP nm ns nc st se) (w':World) (hx:Ext (w.alloc (.cells #[.string ⟨nm.toArray⟩,.int .i64 g1,.int .i64 g2,.int .i64 g3,.int .i64 g4,.slice As ns cs,.slice (some ⟨b,off,none⟩) nc cc] 42)) w')=>zbT nm g1 g2 g3 g4 As ns cs st (some ⟨b,off,none⟩) nc cc se w' (HSV.out.ext (HW0.out.trans hx)) (HCV.out.ext (HW0.out.trans hx)) (small_up h).1 (small_up h).2.1 (small_up h).2.2.1 (small_up h).2.2.2.1 (small_up h).2.2.2.2)
 have hcase:=parts_case (g1:=g1) (g2:=g2) (g3:=g3) (g4:=g4) hv (show k<se.length by omega)
 unfold PtxR at HTO HTA
 unfold GrmR at HGO HGA
 rw [hge] at HTO HTA HGO HGA
 rw [o1,if_pos rfl] at HGO
 rw [hv,if_pos rfl] at HGA
 obtain ⟨N,hN⟩:∃N,gramS st st.length=N:=⟨_,rfl⟩
 rw [hN] at HGO HGA
 obtain ⟨E1,hE1⟩:∃E,ptxE nm ge g1 g2 g3 g4 st [se.getD k sec0]=E:=⟨_,rfl⟩
 obtain ⟨T1,hT1⟩:∃E,ptxV nm ge g1 g2 g3 g4 st [se.getD k sec0]=E:=⟨_,rfl⟩
 obtain ⟨E2,hE2⟩:∃E,ptxE nm ge g1 g2 g3 g4 st se=E:=⟨_,rfl⟩
 obtain ⟨T2,hT2⟩:∃E,ptxV nm ge g1 g2 g3 g4 st se=E:=⟨_,rfl⟩
 rw [hE1,hT1] at HTO hcase
 rw [hE2,hT2] at HTA hcase
 rw [hlc] at hcase
 have hcc:(k:Int)+1≤(cc:Int):=by omega
 have hcc0:(k:Int)≤(k:Int)+1:=by omega
 have hcc1:((k:Int)+1-(k:Int)).toNat=1:=by omega
 clear hN hE1 hT1 hE2 hT2
 clear z0 z1 z2 hr5 hc5 hb5 hSE hSS hSL hI hY hS hRR
 rcases hcase with ⟨rfl,rfl,hle,hne1⟩ | ⟨rfl,rfl,hle,rfl⟩ | ⟨rfl,rfl⟩ | ⟨rfl,rfl⟩
 all_goals
  go_enter Tryz.func8,Tryz.ntmps8
  go_wp2_with (first
  | (go_at_call 29;((with_reducible refine (HAL.out _ zx).mono ?_);rintro e w1 ⟨rfl,hq1⟩;have HE1:=Za (zx:Ext (w.alloc (.cells #[.string ⟨nm.toArray⟩,.int .i64 g1,.int .i64 g2,.int .i64 g3,.int .i64 g4,.slice As ns cs,.slice (some ⟨b,off,none⟩) nc cc] 42)) w1);obtain ⟨x0,x1,x2,x3,x4,x5,x6,xz⟩:=(HBX.out.ext HE1.out).facts))
  | (go_at_call 15;((with_reducible refine (HGR.out _ (HE1.out.trans zx)).mono ?_);rintro e w2 ⟨⟨b,rfl,hb⟩,hq2⟩;have HSM:=Za hb;have HE2:=Za (HE1.out.trans (zx:Ext w1 w2));obtain ⟨x0,x1,x2,x3,x4,x5,x6,xz⟩:=(HBX.out.ext HE2.out).facts;clear hb;cases b))
  | (go_at_call 33;((with_reducible refine (HCK.out (HSM.out (by simp)) _ (HE2.out.trans zx)).mono ?_);rintro e w3 ⟨rfl,hq3⟩;have HE3:=Za (HE2.out.trans (zx:Ext w2 w3));obtain ⟨x0,x1,x2,x3,x4,x5,x6,xz⟩:=(HBX.out.ext HE3.out).facts;obtain ⟨zb,z0,z1,z2⟩:=HZ.out;have hx3:=(HW0.out.trans HE3.out).facts;have y0:=(hx3.1 _ _ zb).trans z0;have yb:=hx3.2.2 _ zb)))
  all_goals (first | (go_ret;exact ⟨rfl,by have h1:=HW0.out;have h2:=HE1.out;repeat (first|exact zr _|assumption|refine za ?_ _|refine zd ?_|refine zn ?_ _|refine zt ?_ (by assumption))⟩) | skip)
  go_region_held3 (fun wx=>wx.cell? ⟨w.heap.size,0,none⟩=some (.string ⟨nm.toArray⟩)∧wx.cell? ⟨w.heap.size,1,none⟩=some (.int .i64 g1)∧wx.cell? ⟨w.heap.size,2,none⟩=some (.int .i64 g2)∧wx.cell? ⟨w.heap.size,3,none⟩=some (.int .i64 g3)∧wx.cell? ⟨w.heap.size,4,none⟩=some (.int .i64 g4)∧wx.cell? ⟨w.heap.size,5,none⟩=some (.slice As ns cs)∧wx.cell? ⟨w.heap.size,6,none⟩=some (.slice (some ⟨b,off,none⟩) nc cc)∧wx.cell? ⟨b,off+k*3,none⟩=some (.string ⟨Y.toArray⟩)) (go_keep) (first
   | (go_at_call 25;((with_reducible refine (HSC.out (HSM.out (by simp)) _ (HE3.out.trans zx)).mono ?_);rintro e w4 ⟨A4,n4,c4,rfl,hq4,hr4⟩;have HR4:=Za hr4;have HQ4:=Za hq4;have HE4:=Za (HE3.out.trans (zx:Ext w3 w4));obtain ⟨x0,x1,x2,x3,x4,x5,x6,xz⟩:=(HBX.out.ext HE4.out).facts;have HC4:=Za (BoxC.start w4 S A4 n4 c4);have hx4:=(HW0.out.trans HE4.out).facts;have y4:=(hx4.1 _ _ zb).trans z0;have yb4:=hx4.2.2 _ zb;(first | ((first | (have hg4:Ext (w3.alloc (.cells #[.int .i64 0,.slice none 0 0] 24)) w4:=hq4) | (have hg4:Ext (w3.alloc (.cells #[.int .i64 0,.slice none 0 0] 24)) w4:=((Zd _).drew).trans hq4));have q0:w4.cell? ⟨w3.heap.size,0,none⟩=some (.int .i64 0):=(hg4.facts.1 _ _ (by simp)).trans (by simp [go_sem]);have q1:w4.cell? ⟨w3.heap.size,1,none⟩=some (.slice none 0 0):=(hg4.facts.1 _ _ (by simp)).trans (by simp [go_sem]);have p0:w4.frozen? ⟨w3.heap.size,0,none⟩=false:=(hg4.facts.2.1 _ _ (by simp)).trans (by simp [go_sem]);have p1:w4.frozen? ⟨w3.heap.size,1,none⟩=false:=(hg4.facts.2.1 _ _ (by simp)).trans (by simp [go_sem]);have qz:w3.heap.size<w4.heap.size:=hg4.facts.2.2 _ (by simp);have qn1:¬w3.heap.size=w.heap.size:=(by omega);have qn2:¬w3.heap.size=b:=(by omega)) | skip);clear hr4 hx4)))
  all_goals
   first
   | (
    obtain ⟨W5,hW5⟩:∃W,w4.alloc (.cells #[.int .i64 S,.slice A4 n4 c4] 24)=W:=⟨_,rfl⟩
    rw [hW5]
    have HX5:=Za (show Ext (w.alloc (.cells #[.string ⟨nm.toArray⟩,.int .i64 g1,.int .i64 g2,.int .i64 g3,.int .i64 g4,.slice As ns cs,.slice (some ⟨b,off,none⟩) nc cc] 42)) W5 by rw [←hW5];exact HE4.out.alloc _)
    have HB5:=Za (show BoxA W5 w4.heap.size S (.slice A4 n4 c4) by rw [←hW5];exact BoxA.new_ _ _ _ _)
    have HR9:=Za (show Rws W5 (fun _=>True) A4 n4 RR by rw [←hW5];exact HR4.out.any.ext ((Zd _).alloc _))
    obtain ⟨gc,hgc⟩:∃g,w4.heap.size=g:=⟨_,rfl⟩
    rw [hgc] at HB5 ⊢
    clear hW5 hgc)
   | (
    obtain ⟨W5,hW5⟩:∃W,(w4.setCell ⟨w3.heap.size,0,none⟩ (.int .i64 S)).setCell ⟨w3.heap.size,1,none⟩ (.slice A4 n4 c4)=W:=⟨_,rfl⟩
    rw [hW5]
    have hwb:w.heap.size+1≤w3.heap.size:=(by omega)
    have HX5:=Za (show Ext (w.alloc (.cells #[.string ⟨nm.toArray⟩,.int .i64 g1,.int .i64 g2,.int .i64 g3,.int .i64 g4,.slice As ns cs,.slice (some ⟨b,off,none⟩) nc cc] 42)) W5 by rw [←hW5];exact Zi (Zi HE4.out (by simpa using hwb) _) (by simpa using hwb) _)
    have HB5:=Za (show BoxA W5 w3.heap.size S (.slice A4 n4 c4) by
     rw [←hW5]
     obtain ⟨k0,k1⟩:=zar (v0 := .int .i64 S) (v1 := .slice A4 n4 c4) q0 q1
     exact ⟨by rw [Zj _ _ _ _ (by simp)];exact k0,k1,by simpa using qz⟩)
    have HR9:=Za (show Rws W5 (fun _=>True) A4 n4 RR by rw [←hW5];exact (zej HR4.out (by simp) (Zf _)).any)
    obtain ⟨gc,hgc⟩:∃g,w3.heap.size=g:=⟨_,rfl⟩
    rw [hgc] at HB5 ⊢
    clear hW5 hgc)
   obtain ⟨x0,x1,x2,x3,x4,x5,x6,xz⟩:=(HBX.out.ext HX5.out).facts
   obtain ⟨c0,c1,cz⟩:=HB5.out
   have HXX:=Za (Zd (W5.alloc (.cells #[.string ⟨nm.toArray⟩,.int .i64 g1,.int .i64 g2,.int .i64 g3,.int .i64 g4,.slice As ns cs,.slice (some ⟨b,off+k*3,none⟩) 1 (cc-k)] 42)))
   have HO5:=Za (BoxP.start W5 nm g1 g2 g3 g4 As ns cs (some ⟨b,off+k*3,none⟩) 1 (cc-k))
   go_wp2_with (first
    | (go_at_call 16;(first
     | ((with_reducible refine (HTO.out (HSM.out (by simp)) _ (HX5.out.trans zx)).mono ?_);rintro e w6 ⟨rfl,hq6⟩;replace HXX:=Za (HXX.out.trans (Zb zx hq6:Ext _ w6));clear hq6;have hxx:=HX5.out.trans (((Zd W5).alloc _).trans HXX.out);have HE:=Za hxx;obtain ⟨x0,x1,x2,x3,x4,x5,x6,xz⟩:=(HBX.out.ext hxx).facts;obtain ⟨y0,y1,y2,y3,y4,y5,y6,yz⟩:=(HO5.out.ext HXX.out).facts;clear hxx)
     | ((with_reducible refine (HTA.out (HSM.out (by simp)) _ (HE.out.trans zx)).mono ?_);rintro e w7 ⟨rfl,hq7⟩;replace HXX:=Za (HXX.out.trans (Zb zx hq7:Ext w6 w7));clear hq7;have hxx:=HX5.out.trans (((Zd W5).alloc _).trans HXX.out);have HE:=Za hxx;obtain ⟨x0,x1,x2,x3,x4,x5,x6,xz⟩:=(HBX.out.ext hxx).facts;obtain ⟨y0,y1,y2,y3,y4,y5,y6,yz⟩:=(HO5.out.ext HXX.out).facts;clear hxx)))
    | (go_at_call 24;(first
     | ((with_reducible refine (HGA.out (HSM.out (by simp)) _ (HE.out.trans zx)).mono ?_);rintro e w8 ⟨rfl,hq8⟩;replace HXX:=Za (HXX.out.trans (Zb zx hq8:Ext w7 w8));clear hq8;have hxx:=HX5.out.trans (((Zd W5).alloc _).trans HXX.out);have HE:=Za hxx;obtain ⟨x0,x1,x2,x3,x4,x5,x6,xz⟩:=(HBX.out.ext hxx).facts;obtain ⟨y0,y1,y2,y3,y4,y5,y6,yz⟩:=(HO5.out.ext HXX.out).facts;clear hxx)
     | ((with_reducible refine (HGO.out (HSM.out (by simp)) _ (HE.out.trans zx)).mono ?_);rintro e w9 ⟨rfl,hq9⟩;replace HXX:=Za (HXX.out.trans (Zb zx hq9:Ext w8 w9));clear hq9;have hxx:=HX5.out.trans (((Zd W5).alloc _).trans HXX.out);have HE:=Za hxx;obtain ⟨x0,x1,x2,x3,x4,x5,x6,xz⟩:=(HBX.out.ext hxx).facts;obtain ⟨y0,y1,y2,y3,y4,y5,y6,yz⟩:=(HO5.out.ext HXX.out).facts;clear hxx;obtain ⟨c0,c1,cz⟩:=(HB5.out.ext (((Zd W5).alloc _).trans HXX.out));obtain ⟨zb,z0,z1,z2⟩:=HZ.out;have hx9:=(HW0.out.trans HE.out).facts;have v1:=(hx9.1 _ _ zb).trans z1;have v2:=(hx9.1 _ _ zb).trans z2;have vb:=hx9.2.2 _ zb;have HC9:=Za (And.intro c0 (And.intro c1 (And.intro x6 (And.intro v1 (And.intro v2 (And.intro vb cz))))));clear hx9))))
   have HY:=Za (Zd w9)
   have HRA:=Za (HR9.out.ext (((Zd W5).alloc _).trans HXX.out))
   have HRB:=Za (HR5.out.ext (HW0.out.trans HE.out))
   go_region_held3 (fun wx=>wx.cell? ⟨gc,0,none⟩=some (.int .i64 S)∧wx.cell? ⟨gc,1,none⟩=some (.slice A4 n4 c4)∧wx.cell? ⟨w.heap.size,6,none⟩=some (.slice (some ⟨b,off,none⟩) nc cc)∧wx.cell? ⟨b,off+k*3+1,none⟩=some (.int .i64 S)∧wx.cell? ⟨b,off+k*3+1+1,none⟩=some (.slice A5 n5 c5)) (go_keep) (first
    | (go_at_call 14;((with_reducible refine (zat S S A4 A5 n4 n5 c4 c5 RR RR _ (HRA.out.ext zx) (HRB.out.ext zx)).mono ?_);rintro e wa ⟨rfl,hqa⟩;rw [zax];have hxa:=(zx:Ext w9 wa);obtain ⟨f1,f2,f3⟩:=hxa.facts;replace HY:=Za hxa;clear hqa hxa)))
   go_wp2_with fail
   go_ret
   exact ⟨by first | rfl | simp,HW0.out.trans (HE.out.trans HY.out)⟩
set_option maxRecDepth 100000 in
theorem patternParts_lifted (os:Os) (started:os.Started) (H:Type) (enc:TypeId×Value→H) :
  ReturnsInHanded {} Tryz.checked os 8 .any (fun w args=>(Rows.patternPartsSpec.pre enc Tryz.prog Tryz.f8 [] false w args∧laidMetH Tryz.prog [("math/bits.deBruijn32tab",Rows.laid_math_bits_deBruijn32tab),("math/bits.deBruijn64tab",Rows.laid_math_bits_deBruijn64tab),("internal/strconv.uint64pow10",Rows.laid_internal_strconv_uint64pow10),("unicode/utf8.acceptRanges",Rows.laid_unicode_utf8_acceptRanges),("strconv.ErrRange",Rows.laid_strconv_ErrRange),("strconv.ErrSyntax",Rows.laid_strconv_ErrSyntax),("unicode/utf8.first",Rows.laid_unicode_utf8_first)] w)∧sizedMet enc Tryz.prog Tryz.f8 (OpenSpec.ofChange Rows.patternPartsSpec) false w args)
   (Rows.patternPartsSpec.post enc Tryz.prog Tryz.f8 false true false false):=by
 refine zbI (C:=Tryz.checked) (X:=fun w _=>laidMetH Tryz.prog [("math/bits.deBruijn32tab",Rows.laid_math_bits_deBruijn32tab),("math/bits.deBruijn64tab",Rows.laid_math_bits_deBruijn64tab),("internal/strconv.uint64pow10",Rows.laid_internal_strconv_uint64pow10),("unicode/utf8.acceptRanges",Rows.laid_unicode_utf8_acceptRanges),("strconv.ErrRange",Rows.laid_strconv_ErrRange),("strconv.ErrSyntax",Rows.laid_strconv_ErrSyntax),("unicode/utf8.first",Rows.laid_unicode_utf8_first)] w) (fun _ _ _ hh h=>h.of_heap hh) own started (by kernel_rfl) Tryz.func8
  (ChangeSpec.witness_shaped (enc:=enc) (C:=Tryz.checked) (os:=os) (X:=fun w _=>laidMetH Tryz.prog [("math/bits.deBruijn32tab",Rows.laid_math_bits_deBruijn32tab),("math/bits.deBruijn64tab",Rows.laid_math_bits_deBruijn64tab),("internal/strconv.uint64pow10",Rows.laid_internal_strconv_uint64pow10),("unicode/utf8.acceptRanges",Rows.laid_unicode_utf8_acceptRanges),("strconv.ErrRange",Rows.laid_strconv_ErrRange),("strconv.ErrSyntax",Rows.laid_strconv_ErrSyntax),("unicode/utf8.first",Rows.laid_unicode_utf8_first)] w) false (World.laidAll Tryz.prog os [("math/bits.deBruijn32tab",Rows.laid_math_bits_deBruijn32tab),("math/bits.deBruijn64tab",Rows.laid_math_bits_deBruijn64tab),("internal/strconv.uint64pow10",Rows.laid_internal_strconv_uint64pow10),("unicode/utf8.acceptRanges",Rows.laid_unicode_utf8_acceptRanges),("strconv.ErrRange",Rows.laid_strconv_ErrRange),("strconv.ErrSyntax",Rows.laid_strconv_ErrSyntax),("unicode/utf8.first",Rows.laid_unicode_utf8_first)]) #[.agg #[.string ⟨#[]⟩,.int .i64 0,.int .i64 0,.int .i64 0,.int .i64 0,.slice none 0 0,.slice none 0 0],.int .i64 0] 8 (World.laidAll_os _ _ _)
   (World.shaped_of_ZipB (by kernel_rfl) (by kernel_rfl)) (by kernel_rfl) (by kernel_rfl) (by kernel_rfl)
   (by rw [MakeChecks.laidMetH_plain _ _ _ (by kernel_rfl)];exact laidMet_laidAll _ (by kernel_rfl) (by kernel_rfl))) ?_
 intro W base args ds gs before hval0 hW hL hsh
 have hval:∀(j:Nat) t v,Tryz.f8.params[j]?=some t→args[j]?=some v→Value.okWide Tryz.prog W .any base t v:=hval0
 have hW':=hW
 obtain ⟨p,q,hA0,hV,rfl,hfz,hnd⟩:=hW
 have hA:DataW.TrodAll enc Tryz.prog W 0 (fun _=>true) true Tryz.f8.params.toList args.toList ds p:=hA0
 rw [Tryz.params8] at hA hval
 obtain ⟨v0,vs0,d0,ds0,p0,q0,hargs,rfl,rfl,h0,r0⟩:=trodAll_cons hA
 obtain ⟨v1,vs1,d1,ds1,p1,q1,rfl,rfl,rfl,h1,r1⟩:=trodAll_cons r0
 obtain ⟨rfl,rfl,rfl⟩:=trodAll_nil r1
 obtain rfl:args=#[v0,v1]:=by cases args;simp_all
 obtain ⟨rfl,rfl⟩:=trodVars_none hV
 obtain ⟨qnm,qg1,qg2,qg3,qg4,qAs,qns,qcs,qst,qAc,qnc,qcc,qse,rfl,qh1,qh2,qh3,qh4,qh5⟩:=zch (hval 0 42 v0 rfl rfl) h0
 obtain ⟨i,rfl,rfl, -, -⟩:=open_int Tryz.underlying3 (hval 1 3 v1 rfl rfl) h1
 rw [MakeChecks.laidMetH_plain _ _ _ (by kernel_rfl)] at hL
 have hG:=zfM hL hsh
 refine (patternParts_walk qnm qg1 qg2 qg3 qg4 qAs qns qcs qst qAc qnc qcc qse i W qh1 qh2 qh3 qh5 hG).mono fun e W' ⟨he,hg⟩=>?_
 subst he
 exact ⟨_,rfl,zd9 zd8 rfl Tryz.underlying4 (by kernel_rfl) rfl hW' rfl hg⟩
theorem patternParts_holds:Rows.PatternPartsSaid :=
 OpenClaim.holds_of_wide 8 Tryz.f8 rfl rfl rfl rfl rfl rfl rfl ⟨rfl,rfl,rfl,rfl,rfl⟩ rfl rfl rfl rfl rfl (by kernel_rfl) Tryz.func8 (by kernel_rfl)
  (of_decide_eq_true (by kernel_rfl)) (by unfold Func.isWrapper;first | (rw [if_pos (by decide +kernel)];kernel_rfl) | (rw [if_neg (by decide +kernel)];exact ⟨rfl,rfl⟩))
  (fun os started H enc _=>patternParts_lifted os started H enc)
theorem patternParts_card:Rows.PatternPartsCardSaid :=
 Claim7.holds_tied_plain_at .later [] [.data,.data,.data,.data,.sentinel,.sentinel,.pinned] true (true, "82ac2ac690227137bd2922f134a4e9e2379fe122be6281254703ee86f1f41d35") true
  patternParts_holds (fun _ h=>by cases h) (by kernel_rfl) (fun _ h=>by cases h) patternParts_row_tie rfl ⟨rfl,rfl⟩ (by kernel_rfl) rfl
  (fun f fn hf hfn=>by
   obtain rfl:f=8:=ZV ((show Tryz.prog.funcNamed "raddle/raddlelaw43.PatternParts" = some 8 by kernel_rfl).symm.trans hf) |>.symm
   obtain rfl:fn=Tryz.f8:=(ZV (Tryz.func8.symm.trans hfn)).symm
   exact ⟨by kernel_rfl,fun j t ht=>by
    rw [Tryz.params8] at ht
    have hm:t∈[42,3]:=by simpa using Array.mem_of_getElem? ht
    have hall:([42,3].all fun u => !Tryz.prog.wantsStandIn u)=true:=by kernel_rfl
    exact (show Tryz.prog.wantsStandIn t=false by simpa using Zq.1 hall t hm)⟩)
  (by kernel_rfl)
end Go.Proofs.YtkneghkbgingdaaGreatDoor
