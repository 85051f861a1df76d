/- The program puts a line into a pattern. -/
import Derived.Test.YtkneghkbgingdaaGreatDoorT20
import Derived.Test.YtkneghkbgingdaaGreatDoorT32
set_option maxHeartbeats 16000000
namespace Go.Proofs.YtkneghkbgingdaaGreatDoor
set_option maxRecDepth 100000
open Go.RowKit Go.ChangeShapes Go.WideShapes Go.Joins
def Kp (gp:Nat) (wr w' W W':World) (V1 V2 V1' V2':Value) (se se':List Sec):Prop:=∀b,b<wr.heap.size->b≠gp->some b≠V1.ownBlock->some b≠V2.ownBlock->(se=[]∨b<W.heap.size) ->
 b<w'.heap.size/\(∀o,w'.cell? ⟨b,o,none⟩=wr.cell? ⟨b,o,none⟩)/\some b≠V1'.ownBlock/\some b≠V2'.ownBlock/\(se'=[]∨b<W'.heap.size)
section
variable {gp:Nat} {wr w' wx W W':World} {V1 V2 V1' V2':Value} {se se':List Sec}
theorem Kp.ext (h:Ext wr w'):Kp gp wr w' W W V1 V2 V1 V2 se se:=fun b hb _ h1 h2 h3=>⟨h.facts.2.2 _ hb,fun o=>Zs (p:=⟨b,o,none⟩) h hb,h1,h2,h3⟩
theorem Kp.set (h:Kp gp wr w' W W' V1 V2 V1' V2' se se') (j:Nat) (u:Value):Kp gp wr (w'.setCell ⟨gp,j,none⟩ u) W (W'.setCell ⟨gp,j,none⟩ u) V1 V2 V1' V2' se se':=fun b hb hne h1 h2 h3=>by
 obtain ⟨a1,a2,a3,a4,a5⟩:=h b hb hne h1 h2 h3
 refine ⟨by simpa using a1,fun o=>(Zj _ ⟨gp,j,none⟩ ⟨b,o,none⟩ _ (by intro e;cases e;exact hne rfl)).trans (a2 o),a3,a4,by simpa using a5⟩
theorem Kp.st (h:Ext wr wx) (hg:wx.grownBy w' V1.ownBlock/\(V1'.ownBlock=V1.ownBlock∨V1'.ownBlock=some wx.heap.size)):Kp gp wr w' W w' V1 V2 V1' V2 se se':=fun b hb hne h1 h2 h3=>by
 have b1:=h.facts.2.2 _ hb
 have b2:=But.size hg.1
 refine ⟨by omega,fun o=>(But.cell (p:=⟨b,o,none⟩) hg.1 b1 h1).trans (Zs (p:=⟨b,o,none⟩) h hb),fun e=>?_,h2,.inr (by omega)⟩
 rcases hg.2 with k | k
 ·rw [k] at e;exact h1 e
 ·rw [k] at e;cases e;omega
theorem Kp.sec (h:Ext wr wx) (hg:wx.grownBy w' V2.ownBlock/\(V2'.ownBlock=V2.ownBlock∨V2'.ownBlock=some wx.heap.size)):Kp gp wr w' W w' V1 V2 V1 V2' se se':=fun b hb hne h1 h2 h3=>by
 have b1:=h.facts.2.2 _ hb
 have b2:=But.size hg.1
 refine ⟨by omega,fun o=>(But.cell (p:=⟨b,o,none⟩) hg.1 b1 h2).trans (Zs (p:=⟨b,o,none⟩) h hb),h1,fun e=>?_,.inr (by omega)⟩
 rcases hg.2 with k | k
 ·rw [k] at e;exact h2 e
 ·rw [k] at e;cases e;omega
theorem Kp.add {g2 j:Nat} {u:Value} (h:Ext W wr) (h2:Ext W w') (hv:V2.ownBlock=some g2) (hn:se≠[]):Kp gp wr (w'.setCell ⟨g2,j,none⟩ u) W (W.setCell ⟨g2,j,none⟩ u) V1 V2 V1 V2 se se':=fun b hb hne h1 h3 h4=>by
 rcases h4 with h4 | h4
 ·exact absurd h4 hn
 ·have h5:=h2.facts.2.2 _ h4
  refine ⟨by simpa using h5,fun o=>(Zj _ ⟨g2,j,none⟩ ⟨b,o,none⟩ _ (by intro e;cases e;exact h3 hv.symm)).trans ((Zs (p:=⟨b,o,none⟩) h2 h4).trans (Zs (p:=⟨b,o,none⟩) h h4).symm),h1,h3,.inr (by simpa using h4)⟩
end
def PLnR (gR gp:Nat) (w wr W:World) (V1 V2:Value) (p:PSt) (i:Nat) (s:List UInt8) (e:Ending) (w':World):Prop :=
 (readL atoiO p i s=none/\e = .returned (.bool false)/\Ext w w'/\CellsAt w' gR (pcells pst0 nilV nilV)/\(∀o,w'.frozen? ⟨gR,o,none⟩=false)/\gR<w'.heap.size) ∨
 ∃(p':PSt) (w0 W1 W':World) (V1' V2':Value),readL atoiO p i s=some p'/\e = .returned (.bool true)/\PM gR gp w w0 W1 W' w' p' V1' V2'/\Kp gp wr w' W W' V1 V2 V1' V2' p.se p'.se
section
variable {gR gp:Nat} {w w0 w0' W1 W1' W W' wr wx:World} {p p':PSt} {V1 V2 V1' V2':Value} {i:Nat} {s:List UInt8}
theorem PLnR.no (h:PM gR gp w w0 W1 W wr p V1 V2) (hn:readL atoiO p i s=none) (hb:Ext w0 wx) {we We:World}:PLnR gR gp w we We V1' V2' p i s (.returned (.bool false)) wx:=by
 obtain ⟨a1,a2,a3,a4,a5,a6⟩:=h.at0 hb
 exact .inl ⟨hn,rfl,h.e0.trans hb,a1,a3,a5⟩
theorem PLnR.yes (hn:readL atoiO p i s=some p') (h:PM gR gp w w0' W1' W' wx p' V1' V2') (hk:Kp gp wr wx W W' V1 V2 V1' V2' p.se p'.se):PLnR gR gp w wr W V1 V2 p i s (.returned (.bool true)) wx := .inr ⟨p',w0',W1',W',V1',V2',hn,rfl,h,hk⟩
end
theorem zag {w:World} {g:Nat} {p:PSt} {V1 V2:Value} (h:CellsAt w g (pcells p V1 V2)):w.cell? ⟨g,0,none⟩=some (.string ⟨p.nm.toArray⟩)/\w.cell? ⟨g,1,none⟩=some (.int .i64 p.g1)/\w.cell? ⟨g,2,none⟩=some (.int .i64 p.g2)/\w.cell? ⟨g,3,none⟩=some (.int .i64 p.g3) /\
  w.cell? ⟨g,4,none⟩=some (.int .i64 p.g4)/\w.cell? ⟨g,5,none⟩=some V1/\w.cell? ⟨g,6,none⟩=some V2:=⟨h 0 _ rfl,h 1 _ rfl,h 2 _ rfl,h 3 _ rfl,h 4 _ rfl,h 5 _ rfl,h 6 _ rfl⟩
theorem za1 (l:List UInt8) (c:UInt8) (hl:l.length<=100000) (w:World) (hg:Glob w) :
  Calls Tryz.prog 50 #[.string ⟨l.toArray⟩,.string ⟨#[c]⟩] w fun e w'=>∃g,e = .returned (.slice (some ⟨g,0,none⟩) (spl c l).length (spl c l).length)/\Ext w w'/\Vec shStr w' (some ⟨g,0,none⟩) (spl c l).length (spl c l)/\w.heap.size<=g:=by
 obtain ⟨m,hm⟩:=hg.max
 refine (Tryz.strings_Split ⟨l.toArray⟩ ⟨#[c]⟩ m w (by rw [zaK];omega) hm (by simp [ByteArray.size])).mono ?_
 rintro e w' ⟨rfl,rfl⟩
 have hs:=zf9 c ⟨l.toArray⟩
 rw [zaG] at hs
 have aa:(spl c l).length=Lib.countB ⟨l.toArray⟩ ⟨#[c]⟩+1:=by
  rw [zdM c _ l (Zg _),Lib.countB,zaG]
 rw [aa]
 refine ⟨w.heap.size,rfl,(Zf _).alloc _,⟨aa,fun _=>⟨w.heap.size,0,rfl,by simp,fun k x hx i u hu=>?_⟩⟩,Zg _⟩
 exact zZ3
theorem zZ2 {p:Prop} (h:p:=by
 clear hrd h2
 go_enter Tryz.func52,Tryz.ntmps52
 go_wp2_with (first
  | (go_at_call 50;((with_reducible refine (HSP.out _ zx).mono ?_);rintro e w1 ⟨g1,rfl,hq1,hv1,hg1⟩;have HG1:=Za hg1;clear hg1;have HV1:=Za hv1;have c0:=HW.out w1 g1 0 hv1 (by omega);have hy1:=(zx:Ext wr w1);have HP1:=Za (HP.out.ext hy1);have hz1:=Zn w1 _ c0;clear hv1;obtain ⟨y0,y1,y2,y3,y4,y5,y6⟩:=zag (HP.out.at0 (HP.out.b0.trans hy1)).2.1;have yf:=(HP.out.at0 (HP.out.b0.trans hy1)).2.2.2.1;have yz:=(HP.out.at0 (HP.out.b0.trans hy1)).2.2.2.2.2;have HY1:=Za hy1;clear hy1)))
 go_ret
 exact PLnR.no HP1.out HRD.out HP1.out.b0):p:=h
theorem zob (gR gp:Nat) (w w0 W1 W wr:World) (p:PSt) (V1 V2:Value) (s:List UInt8) (h:PM gR gp w w0 W1 W wr p V1 V2) (hg:Glob w) (hs:s.length<=60000) :
  Calls Tryz.prog 52 #[.pointer (some ⟨gp,0,none⟩),.int .i64 0,.string ⟨s.toArray⟩] wr (PLnR gR gp w wr W V1 V2 p 0 s):=by
 have HP:=Za h
 have HG:=Za (hg.ext h.all)
 have ac:∀(w':World),Ext wr w'->Calls Tryz.prog 50 #[.string ⟨s.toArray⟩,.string ⟨#[32]⟩] w' fun e w''=>∃g,e = .returned (.slice (some ⟨g,0,none⟩) (spl 32 s).length (spl 32 s).length)/\Ext w' w''/\Vec shStr w'' (some ⟨g,0,none⟩) (spl 32 s).length (spl 32 s)/\wr.heap.size<=g:=fun w' hb=>by
  refine (za1 s 32 (by omega) w' (HG.out.ext hb)).mono ?_
  rintro e w9 ⟨g,rfl,h1,h2,h3⟩
  exact ⟨g,rfl,h1,h2,ZD (Zl hb) h3⟩
 have HSP:=Za ac
 have ad:=zbT 32 s
 have ab:=zbb 32 s
 have hw1:=zal 32 s 1
 have hw2:=zal 32 s 2
 obtain ⟨x0,x1,x2,x3,x4,x5,x6⟩:=zag (h.at0 h.b0).2.1
 have xf:=(h.at0 h.b0).2.2.2.1
 have xz:=(h.at0 h.b0).2.2.2.2.2
 have HW:=Za (fun (w':World) (g k:Nat) (h:Vec shStr w' (some ⟨g,0,none⟩) (spl 32 s).length (spl 32 s)) (hk:k<(spl 32 s).length)=>(show w'.cell? ⟨g,k,none⟩=some (.string ⟨((spl 32 s).getD k []).toArray⟩) from by
  obtain ⟨b,off,e,_,h1⟩:=h.word hk
  cases e
  rw [Nat.zero_add] at h1
  exact h1))
 clear ac
 have hrd:readL atoiO p 0 s=if (spl 32 s).length=2 then some { p with nm:=(spl 32 s).getD 1 [] } else none:=by rw [readL,if_pos rfl]
 obtain ⟨nw,aa⟩:∃nw,(spl 32 s).length=nw:=⟨_,rfl⟩
 have HNW:=Za aa
 rw [aa] at hrd ad ab HSP HW
 clear h hg aa
 by_cases h2:nw=2
 ·subst h2
  rw [if_pos rfl] at hrd
  obtain ⟨U,hU⟩:∃U,(spl 32 s).getD 1 []=U:=⟨_,rfl⟩
  rw [hU] at hrd
  have HU:=Za hU
  have HRD:=Za hrd
  clear hrd hU
  go_enter Tryz.func52,Tryz.ntmps52
  go_wp2_with (first
   | (go_at_call 50;((with_reducible refine (HSP.out _ zx).mono ?_);rintro e w1 ⟨g1,rfl,hq1,hv1,hg1⟩;have HG1:=Za hg1;clear hg1;have HV1:=Za hv1;have c1:=HW.out w1 g1 1 hv1 (by omega);have hy1:=(zx:Ext wr w1);have HP1:=Za (HP.out.ext hy1);have hz1:=Zn w1 _ c1;clear hv1;obtain ⟨y0,y1,y2,y3,y4,y5,y6⟩:=zag (HP.out.at0 (HP.out.b0.trans hy1)).2.1;have yf:=(HP.out.at0 (HP.out.b0.trans hy1)).2.2.2.1;have yz:=(HP.out.at0 (HP.out.b0.trans hy1)).2.2.2.2.2;have HY1:=Za hy1;clear hy1;rw [HU.out] at c1)))
  go_ret
  exact PLnR.yes HRD.out (HP1.out.setp (p':={ p with nm:=U }) (by omega) rfl rfl rfl) ((Kp.ext HY1.out).set _ _)
 ·rw [if_neg h2] at hrd
  have HRD:=Za hrd
  have n1:((nw:Int)==2)=false:=by rw [Ze];omega
  have n2:((nw:Int) != 2)=true:=by rw [bne,n1];rfl
  exact zZ2
theorem zoc (gR gp:Nat) (w w0 W1 W wr:World) (p:PSt) (V1 V2:Value) (s:List UInt8) (h:PM gR gp w w0 W1 W wr p V1 V2) (hg:Glob w) (hs:s.length<=60000) :
  Calls Tryz.prog 52 #[.pointer (some ⟨gp,0,none⟩),.int .i64 1,.string ⟨s.toArray⟩] wr (PLnR gR gp w wr W V1 V2 p 1 s):=by
 have HP:=Za h
 have HG:=Za (hg.ext h.all)
 have au:∀(w':World),Ext wr w'->Calls Tryz.prog 50 #[.string ⟨s.toArray⟩,.string ⟨#[32]⟩] w' fun e w''=>∃g,e = .returned (.slice (some ⟨g,0,none⟩) (spl 32 s).length (spl 32 s).length)/\Ext w' w''/\Vec shStr w'' (some ⟨g,0,none⟩) (spl 32 s).length (spl 32 s)/\wr.heap.size<=g:=fun w' hb=>by
  refine (za1 s 32 (by omega) w' (HG.out.ext hb)).mono ?_
  rintro e w9 ⟨g,rfl,h1,h2,h3⟩
  exact ⟨g,rfl,h1,h2,ZD (Zl hb) h3⟩
 have HSP:=Za au
 have aH:=zbT 32 s
 have an:=zbb 32 s
 have aD:=zal 32 s 1
 have aE:=zal 32 s 2
 obtain ⟨x0,x1,x2,x3,x4,x5,x6⟩:=zag (h.at0 h.b0).2.1
 have xf:=(h.at0 h.b0).2.2.2.1
 have xz:=(h.at0 h.b0).2.2.2.2.2
 have HW:=Za (fun (w':World) (g k:Nat) (h:Vec shStr w' (some ⟨g,0,none⟩) (spl 32 s).length (spl 32 s)) (hk:k<(spl 32 s).length)=>(show w'.cell? ⟨g,k,none⟩=some (.string ⟨((spl 32 s).getD k []).toArray⟩) from by
  obtain ⟨b,off,e,_,h1⟩:=h.word hk
  cases e
  rw [Nat.zero_add] at h1
  exact h1))
 clear au
 have aF:=zal 32 s 3
 have aG:=zal 32 s 4
 have hrd:readL atoiO p 1 s=if (spl 32 s).length=5 then some { p with g1:=numP atoiO ((spl 32 s).getD 1 []),g2:=numP atoiO ((spl 32 s).getD 2 []),g3:=numP atoiO ((spl 32 s).getD 3 []),g4:=numP atoiO ((spl 32 s).getD 4 []) } else none:=by rw [readL,if_neg (by omega),if_pos rfl]
 obtain ⟨nw,am⟩:∃nw,(spl 32 s).length=nw:=⟨_,rfl⟩
 have HNW:=Za am
 rw [am] at hrd aH an HSP HW
 clear h hg am
 by_cases h2:nw=5
 ·subst h2
  rw [if_pos rfl] at hrd
  obtain ⟨U1,ai⟩:∃U,(spl 32 s).getD 1 []=U:=⟨_,rfl⟩
  rw [ai] at hrd aD
  have az:=Za ai
  have ao:=Za (fun (w':World) (h:Ext wr w')=>zaB U1 (by omega) w' (HG.out.ext h))
  obtain ⟨v1,hv1⟩:∃v,numP atoiO U1=v:=⟨_,rfl⟩
  rw [hv1] at hrd ao
  obtain ⟨U2,aj⟩:∃U,(spl 32 s).getD 2 []=U:=⟨_,rfl⟩
  rw [aj] at hrd aE
  have aA:=Za aj
  have ap:=Za (fun (w':World) (h:Ext wr w')=>zaB U2 (by omega) w' (HG.out.ext h))
  obtain ⟨v2,hv2⟩:∃v,numP atoiO U2=v:=⟨_,rfl⟩
  rw [hv2] at hrd ap
  obtain ⟨U3,ak⟩:∃U,(spl 32 s).getD 3 []=U:=⟨_,rfl⟩
  rw [ak] at hrd aF
  have aB:=Za ak
  have aq:=Za (fun (w':World) (h:Ext wr w')=>zaB U3 (by omega) w' (HG.out.ext h))
  obtain ⟨v3,hv3⟩:∃v,numP atoiO U3=v:=⟨_,rfl⟩
  rw [hv3] at hrd aq
  obtain ⟨U4,al⟩:∃U,(spl 32 s).getD 4 []=U:=⟨_,rfl⟩
  rw [al] at hrd aG
  have aC:=Za al
  have ar:=Za (fun (w':World) (h:Ext wr w')=>zaB U4 (by omega) w' (HG.out.ext h))
  obtain ⟨v4,hv4⟩:∃v,numP atoiO U4=v:=⟨_,rfl⟩
  rw [hv4] at hrd ar
  have HRD:=Za hrd
  clear hrd ai aj ak al hv1 hv2 hv3 hv4
  go_enter Tryz.func52,Tryz.ntmps52
  go_wp2_with (first
   | (go_at_call 50;((with_reducible refine (HSP.out _ zx).mono ?_);rintro e w1 ⟨g1,rfl,hq1,hv1,hg1⟩;have HG1:=Za hg1;clear hg1;have HV1:=Za hv1;have c1:=HW.out w1 g1 1 hv1 (by omega);have c2:=HW.out w1 g1 2 hv1 (by omega);have c3:=HW.out w1 g1 3 hv1 (by omega);have c4:=HW.out w1 g1 4 hv1 (by omega);have hy1:=(zx:Ext wr w1);have HP1:=Za (HP.out.ext hy1);have hz1:=Zn w1 _ c1;clear hv1;obtain ⟨y0,y1,y2,y3,y4,y5,y6⟩:=zag (HP.out.at0 (HP.out.b0.trans hy1)).2.1;have yf:=(HP.out.at0 (HP.out.b0.trans hy1)).2.2.2.1;have yz:=(HP.out.at0 (HP.out.b0.trans hy1)).2.2.2.2.2;have HY1:=Za hy1;clear hy1;rw [az.out] at c1;rw [aA.out] at c2;rw [aB.out] at c3;rw [aC.out] at c4;have hne:¬g1=gp:=(by intro e;subst e;rw [c1] at y1;cases y1);have hne2:¬gp=g1:=(fun e=>hne e.symm))))
  go_region_held3 (fun wx=>wx.cell? ⟨g1,1,none⟩=some (.string ⟨U1.toArray⟩)/\wx.cell? ⟨g1,2,none⟩=some (.string ⟨U2.toArray⟩)/\wx.cell? ⟨g1,3,none⟩=some (.string ⟨U3.toArray⟩)/\wx.cell? ⟨g1,4,none⟩=some (.string ⟨U4.toArray⟩)) (go_keep) (first
   | (go_at_call 79;first | ((fail_if_success (have h0:=aa.out));((with_reducible refine (ao.out _ (HY1.out.trans zx)).mono ?_);rintro e w2 ⟨rfl,hq2⟩;have hx2:=(zx:Ext w1 w2);have aa:=Za hx2;obtain ⟨ad,hf2,hzz2⟩:=aa.out.facts;have d1:=(ad _ _ hz1).trans c1;have d2:=(ad _ _ hz1).trans c2;have d3:=(ad _ _ hz1).trans c3;have d4:=(ad _ _ hz1).trans c4;clear hx2)) | ((fail_if_success (have h0:=ab.out));((with_reducible refine (ap.out _ (HY1.out.trans (aa.out.trans zx))).mono ?_);rintro e w3 ⟨rfl,hq3⟩;have av:=(zx:Ext w2 w3);have ab:=Za (aa.out.trans av);obtain ⟨ae,hf3,hzz3⟩:=ab.out.facts;have d1:=(ae _ _ hz1).trans c1;have d2:=(ae _ _ hz1).trans c2;have d3:=(ae _ _ hz1).trans c3;have d4:=(ae _ _ hz1).trans c4;clear av)) | ((fail_if_success (have h0:=ac.out));((with_reducible refine (aq.out _ (HY1.out.trans (ab.out.trans zx))).mono ?_);rintro e w4 ⟨rfl,hq4⟩;have aw:=(zx:Ext w3 w4);have ac:=Za (ab.out.trans aw);obtain ⟨af,hf4,hzz4⟩:=ac.out.facts;have d1:=(af _ _ hz1).trans c1;have d2:=(af _ _ hz1).trans c2;have d3:=(af _ _ hz1).trans c3;have d4:=(af _ _ hz1).trans c4;clear aw)) | (((with_reducible refine (ar.out _ (HY1.out.trans (ac.out.trans zx))).mono ?_);rintro e w5 ⟨rfl,hq5⟩;have ax:=(zx:Ext w4 w5);have ah:=Za (ac.out.trans ax);obtain ⟨ag,hf5,hzz5⟩:=ah.out.facts;have d1:=(ag _ _ hz1).trans c1;have d2:=(ag _ _ hz1).trans c2;have d3:=(ag _ _ hz1).trans c3;have d4:=(ag _ _ hz1).trans c4;clear ax))))
  all_goals
   have ay:=Za (HP1.out.ext ah.out)
   go_wp2_with fail
   go_ret
   exact PLnR.yes HRD.out ((((ay.out.setp (p':={ p with g1:=v1 }) (j:=1) (by omega) rfl rfl rfl).setp (p':={ p with g1:=v1,g2:=v2 }) (j:=2) (by omega) rfl rfl rfl).setp (p':={ p with g1:=v1,g2:=v2,g3:=v3 }) (j:=3) (by omega) rfl rfl rfl).setp (p':={ p with g1:=v1,g2:=v2,g3:=v3,g4:=v4 }) (j:=4) (by omega) rfl rfl rfl) (((((Kp.ext (HY1.out.trans ah.out)).set _ _).set _ _).set _ _).set _ _)
 ·rw [if_neg h2] at hrd
  have HRD:=Za hrd
  have n1:((nw:Int)==5)=false:=by rw [Ze];omega
  have n2:((nw:Int) != 5)=true:=by rw [bne,n1];rfl
  exact zZ2
theorem But.cellQ {w w':World} {X:Option Nat} {g j:Nat} {v:Value} (h:w.grownBy w' X) (hg:g<w.heap.size) (hx:some g≠X) (hc:w.cell? ⟨g,j,none⟩=some v):w'.cell? ⟨g,j,none⟩=some v:=(But.cell (p:=⟨g,j,none⟩) h hg hx).trans hc
theorem zhO:(Tryz.prog.info? 61).map (fun i=>(i.zero,i.size,i.bytes))=some (some (.agg #[.string ⟨#[]⟩,.int .i64 0]),2,24):=by kernel_rfl
theorem zeB:(Tryz.prog.info? 59).map (fun i=>(i.zero,i.size,i.bytes))=some (some (.agg #[.string ⟨#[]⟩,.int .i64 0,.slice none 0 0]),3,48):=by kernel_rfl
end Go.Proofs.YtkneghkbgingdaaGreatDoor
/- The program's reader at a yarn's line. -/
namespace Go.Proofs.YtkneghkbgingdaaGreatDoor
set_option maxRecDepth 100000
open Go.RowKit Go.ChangeShapes Go.WideShapes Go.Joins
theorem zmw (gR gp:Nat) (w w0 W1 W wr:World) (p:PSt) (V1 V2:Value) (s:List UInt8) (h:PM gR gp w w0 W1 W wr p V1 V2) (hg:Glob w) (hs:s.length<=60000) (i:Nat) (hi:2<=i) (hst:p.st.length<=100000) (hse:p.se.length<=100000) (hrw:∀x∈p.se,x.rows.length<=100) (hA0:(spl 32 s).getD 0 []=sw) (hA1:(spl 32 s).length=3) (hA2:p.se=[]) :
  Calls Tryz.prog 52 #[.pointer (some ⟨gp,0,none⟩),.int .i64 (i:Int),.string ⟨s.toArray⟩] wr (PLnR gR gp w wr W V1 V2 p i s):=by
 have HP:=Za h
 have HG:=Za (hg.ext h.all)
 have ao:∀(w':World),Ext wr w'->Calls Tryz.prog 50 #[.string ⟨s.toArray⟩,.string ⟨#[32]⟩] w' fun e w''=>∃g,e = .returned (.slice (some ⟨g,0,none⟩) (spl 32 s).length (spl 32 s).length)/\Ext w' w''/\Vec shStr w'' (some ⟨g,0,none⟩) (spl 32 s).length (spl 32 s)/\wr.heap.size<=g:=fun w' hb=>by
  refine (za1 s 32 (by omega) w' (HG.out.ext hb)).mono ?_
  rintro e w9 ⟨g,rfl,h1,h2,h3⟩
  exact ⟨g,rfl,h1,h2,ZD (Zl hb) h3⟩
 have HSP:=Za ao
 have ay:=zbT 32 s
 have al:=zbb 32 s
 have hw1:=zal 32 s 1
 have ax:=zal 32 s 2
 obtain ⟨x0,x1,x2,x3,x4,x5,x6⟩:=zag (h.at0 h.b0).2.1
 have xf:=(h.at0 h.b0).2.2.2.1
 have xz:=(h.at0 h.b0).2.2.2.2.2
 have HW:=Za (fun (w':World) (g k:Nat) (h:Vec shStr w' (some ⟨g,0,none⟩) (spl 32 s).length (spl 32 s)) (hk:k<(spl 32 s).length)=>(show w'.cell? ⟨g,k,none⟩=some (.string ⟨((spl 32 s).getD k []).toArray⟩) from by
  obtain ⟨b,off,e,_,h1⟩:=h.word hk
  cases e
  rw [Nat.zero_add] at h1
  exact h1))
 clear ao
 have i0:((i:Int)==0)=false:=by rw [Ze];omega
 have i1:((i:Int)==1)=false:=by rw [Ze];omega
 have hrd:readL atoiO p i s=if (spl 32 s).getD 0 []=sw/\(spl 32 s).length=3/\p.se=[] then some { p with st:=p.st++[⟨(spl 32 s).getD 1 [],numP atoiO ((spl 32 s).getD 2 [])⟩] }
   else if (spl 32 s).getD 0 []=cw/\(spl 32 s).length=3 then some { p with se:=p.se++[⟨(spl 32 s).getD 1 [],numP atoiO ((spl 32 s).getD 2 []),[]⟩] }
   else match p.se.getLast? with
    | none=>none
    | some x=>(addP atoiO x.rows s).map fun l=>{ p with se:=p.se.dropLast++[{ x with rows:=l }] }:=by rw [readL,if_neg (by omega),if_neg (by omega)];rfl
 obtain ⟨As,cs,e1, -⟩:=h.stfs
 obtain ⟨Ac,cc,e2, -,hcc⟩:=h.secs (fun x hx=>by have:=hrw x hx;omega) (by omega)
 have ac:=h.se.flat h.e2 h.e3 (fun x hx=>by have:=hrw x hx;omega)
 subst e1
 subst e2
 have HFL:=Za ac
 have HS60:=Za hs
 have HRW:=Za hrw
 obtain ⟨nw,ai⟩:∃nw,(spl 32 s).length=nw:=⟨_,rfl⟩
 have HNW:=Za ai
 rw [ai] at hrd ay al HSP HW
 obtain ⟨U0,ag⟩:∃U,(spl 32 s).getD 0 []=U:=⟨_,rfl⟩
 obtain ⟨U1,aj⟩:∃U,(spl 32 s).getD 1 []=U:=⟨_,rfl⟩
 obtain ⟨U2,ah⟩:∃U,(spl 32 s).getD 2 []=U:=⟨_,rfl⟩
 rw [ag,aj,ah] at hrd
 rw [ah] at ax
 have au:=Za ag
 have av:=Za aj
 have aw:=Za ah
 have HN:=Za (fun (w':World) (h:Ext wr w')=>zaB U2 (by omega) w' (HG.out.ext h))
 obtain ⟨v,hv⟩:∃v,numP atoiO U2=v:=⟨_,rfl⟩
 rw [hv] at hrd HN
 rw [ag] at hA0
 rw [ai] at hA1
 rw [if_pos ⟨hA0,hA1,hA2⟩] at hrd
 subst hA0
 subst hA1
 have HRD:=Za hrd
 have am:=Za hA2
 have m0:((p.se.length:Int)==0)=true:=by rw [am.out];rfl
 clear h hg ai ag aj ah hv ac hi hrd hA2
 go_enter Tryz.func52,Tryz.ntmps52
 go_wp2_with (first
  | (go_at_call 50;((with_reducible refine (HSP.out _ zx).mono ?_);rintro e w1 ⟨g1,rfl,hq1,hv1,hg1⟩;have HG1:=Za hg1;clear hg1;have HV1:=Za hv1;have c0:=HW.out w1 g1 0 hv1 (by omega);have c1:=HW.out w1 g1 1 hv1 (by omega);have c2:=HW.out w1 g1 2 hv1 (by omega);have hy1:=(zx:Ext wr w1);have HP1:=Za (HP.out.ext hy1);have hz1:=Zn w1 _ c0;clear hv1;obtain ⟨y0,y1,y2,y3,y4,y5,y6⟩:=zag (HP.out.at0 (HP.out.b0.trans hy1)).2.1;have yf:=(HP.out.at0 (HP.out.b0.trans hy1)).2.2.2.1;have yz:=(HP.out.at0 (HP.out.b0.trans hy1)).2.2.2.2.2;have HY1:=Za hy1;clear hy1;rw [au.out] at c0;rw [av.out] at c1;rw [aw.out] at c2;have hne:¬g1=gp:=(by intro e;subst e;rw [c1] at y1;cases y1);have hne2:¬gp=g1:=(fun e=>hne e.symm))))
 have HB:=Za (show ∀b,(Value.slice As p.st.length cs).ownBlock=some b->b<wr.heap.size from fun b hb=>by
  have a1:=(HP.out.st.blk b hb).2
  have a2:=Zl (HP.out.e2.trans HP.out.e3)
  omega)
 have an:=Za (show some g1≠(Value.slice As p.st.length cs).ownBlock from fun e=>by
  have a1:=HB.out g1 e.symm
  have a2:=HG1.out
  omega)
 go_region_law (first
  | (go_simp;(go_at_call 79;((with_reducible refine (HN.out _ (HY1.out.trans zx)).mono ?_);rintro e w2 ⟨rfl,hq2⟩;have hx2:=(zx:Ext w1 w2);have af:=Za hx2;obtain ⟨ak,hf2,aa⟩:=af.out.facts;have d1:=(ak _ _ hz1).trans c1;have d2:=(ak _ _ hz1).trans c2;have d5:=(ak _ _ yz).trans y5;have ar:=Za (HP1.out.st.ext ((HP1.out.e2.trans HP1.out.e3).trans af.out));have ap:=Za (HP1.out.b0.trans af.out);have aq:=Za (HY1.out.trans af.out);have HK:=Za (show ∀(wx w3:World),Ext w2 wx->wx.grownBy w3 (Value.slice As p.st.length cs).ownBlock->Ext w0 w3->w3.cell? ⟨g1,1,none⟩=some (.string ⟨U1.toArray⟩)/\w3.cell? ⟨g1,2,none⟩=some (.string ⟨U2.toArray⟩)/\w3.cell? ⟨gp,5,none⟩=some (.slice As p.st.length cs)/\(∀o,w3.frozen? ⟨gp,o,none⟩=false)/\gp<w3.heap.size from fun wx w3 h1 h2 h3=>⟨But.cellQ h2 (h1.facts.2.2 _ (aa _ hz1)) (an.out) ((h1.facts.1 _ _ (aa _ hz1)).trans d1),But.cellQ h2 (h1.facts.2.2 _ (aa _ hz1)) (an.out) ((h1.facts.1 _ _ (aa _ hz1)).trans d2),(HP1.out.at0 h3).2.1 5 _ rfl,(HP1.out.at0 h3).2.2.2.1,(HP1.out.at0 h3).2.2.2.2.2⟩);clear hx2)))
  | (refine zau (S:=shStf) (w:=w0) (xs:=[⟨U1,v⟩]) 39 61 (.agg #[.string ⟨#[]⟩,.int .i64 0]) 24 (by rfl) (by rfl) Tryz.underlying39 zhO (by rfl) (by omega) (by rfl) (by rfl) (ar.out.ext zx) (ap.out.trans zx) (Vec.lit2 (w:=w2) (by rfl) (by rfl) (by rfl)) (by omega) ?_;intro v' w3 ad ab ae;obtain ⟨A3,c3,rfl, -⟩:=zav ad;obtain ⟨q1,q2,q5,q6,q7⟩:=HK.out _ _ zx ae.out.1 ab.out;have q65:=q6 5))
 all_goals
  go_wp2_with fail
  go_ret
  exact PLnR.yes HRD.out (HP1.out.addStf am.out ad ab.out) ((Kp.st (aq.out.trans zx) ae.out).set _ _)
end Go.Proofs.YtkneghkbgingdaaGreatDoor
/- The program's reader at a section's line. -/
namespace Go.Proofs.YtkneghkbgingdaaGreatDoor
set_option maxRecDepth 100000
open Go.RowKit Go.ChangeShapes Go.WideShapes Go.Joins
theorem zkD (gR gp:Nat) (w w0 W1 W wr:World) (p:PSt) (V1 V2:Value) (s:List UInt8) (h:PM gR gp w w0 W1 W wr p V1 V2) (hg:Glob w) (hs:s.length<=60000) (i:Nat) (hi:2<=i) (hse:p.se.length<=100000) (hrw:∀x∈p.se,x.rows.length<=100) (hA0:(spl 32 s).getD 0 []=cw) (hA1:(spl 32 s).length=3) :
  Calls Tryz.prog 52 #[.pointer (some ⟨gp,0,none⟩),.int .i64 (i:Int),.string ⟨s.toArray⟩] wr (PLnR gR gp w wr W V1 V2 p i s):=by
 have HP:=Za h
 have HG:=Za (hg.ext h.all)
 have ap:∀(w':World),Ext wr w'->Calls Tryz.prog 50 #[.string ⟨s.toArray⟩,.string ⟨#[32]⟩] w' fun e w''=>∃g,e = .returned (.slice (some ⟨g,0,none⟩) (spl 32 s).length (spl 32 s).length)/\Ext w' w''/\Vec shStr w'' (some ⟨g,0,none⟩) (spl 32 s).length (spl 32 s)/\wr.heap.size<=g:=fun w' hb=>by
  refine (za1 s 32 (by omega) w' (HG.out.ext hb)).mono ?_
  rintro e w9 ⟨g,rfl,h1,h2,h3⟩
  exact ⟨g,rfl,h1,h2,ZD (Zl hb) h3⟩
 have HSP:=Za ap
 have aD:=zbT 32 s
 have al:=zbb 32 s
 have hw1:=zal 32 s 1
 have aC:=zal 32 s 2
 obtain ⟨x0,x1,x2,x3,x4,x5,x6⟩:=zag (h.at0 h.b0).2.1
 have xf:=(h.at0 h.b0).2.2.2.1
 have xz:=(h.at0 h.b0).2.2.2.2.2
 have HW:=Za (fun (w':World) (g k:Nat) (h:Vec shStr w' (some ⟨g,0,none⟩) (spl 32 s).length (spl 32 s)) (hk:k<(spl 32 s).length)=>(show w'.cell? ⟨g,k,none⟩=some (.string ⟨((spl 32 s).getD k []).toArray⟩) from by
  obtain ⟨b,off,e,_,h1⟩:=h.word hk
  cases e
  rw [Nat.zero_add] at h1
  exact h1))
 clear ap
 have i0:((i:Int)==0)=false:=by rw [Ze];omega
 have i1:((i:Int)==1)=false:=by rw [Ze];omega
 have hrd:readL atoiO p i s=if (spl 32 s).getD 0 []=sw/\(spl 32 s).length=3/\p.se=[] then some { p with st:=p.st++[⟨(spl 32 s).getD 1 [],numP atoiO ((spl 32 s).getD 2 [])⟩] }
   else if (spl 32 s).getD 0 []=cw/\(spl 32 s).length=3 then some { p with se:=p.se++[⟨(spl 32 s).getD 1 [],numP atoiO ((spl 32 s).getD 2 []),[]⟩] }
   else match p.se.getLast? with
    | none=>none
    | some x=>(addP atoiO x.rows s).map fun l=>{ p with se:=p.se.dropLast++[{ x with rows:=l }] }:=by rw [readL,if_neg (by omega),if_neg (by omega)];rfl
 obtain ⟨As,cs,e1, -⟩:=h.stfs
 obtain ⟨Ac,cc,e2, -,hcc⟩:=h.secs (fun x hx=>by have:=hrw x hx;omega) (by omega)
 have ad:=h.se.flat h.e2 h.e3 (fun x hx=>by have:=hrw x hx;omega)
 subst e1
 subst e2
 have av:=Za ad
 have HS60:=Za hs
 have HRW:=Za hrw
 obtain ⟨nw,ai⟩:∃nw,(spl 32 s).length=nw:=⟨_,rfl⟩
 have HNW:=Za ai
 rw [ai] at hrd aD al HSP HW
 obtain ⟨U0,ag⟩:∃U,(spl 32 s).getD 0 []=U:=⟨_,rfl⟩
 obtain ⟨U1,aj⟩:∃U,(spl 32 s).getD 1 []=U:=⟨_,rfl⟩
 obtain ⟨U2,ah⟩:∃U,(spl 32 s).getD 2 []=U:=⟨_,rfl⟩
 rw [ag,aj,ah] at hrd
 rw [ah] at aC
 have ay:=Za ag
 have az:=Za aj
 have aA:=Za ah
 have HN:=Za (fun (w':World) (h:Ext wr w')=>zaB U2 (by omega) w' (HG.out.ext h))
 obtain ⟨v,hv⟩:∃v,numP atoiO U2=v:=⟨_,rfl⟩
 rw [hv] at hrd HN
 rw [ag] at hA0
 rw [ai] at hA1
 rw [if_neg (fun hh=>absurd (hA0.symm.trans hh.1) (by decide)),if_pos ⟨hA0,hA1⟩] at hrd
 subst hA0
 subst hA1
 have HRD:=Za hrd
 obtain ⟨xs,aq,hx2,ar⟩:=av.out
 have aB:=Za aq
 have an:=Za hx2
 have ax:=Za ar
 clear h hg ai ag aj ah hv ad hi hrd aq hx2 ar
 go_enter Tryz.func52,Tryz.ntmps52
 go_wp2_with (first
  | (go_at_call 50;((with_reducible refine (HSP.out _ zx).mono ?_);rintro e w1 ⟨g1,rfl,hq1,hv1,hg1⟩;have HG1:=Za hg1;clear hg1;have HV1:=Za hv1;have c0:=HW.out w1 g1 0 hv1 (by omega);have c1:=HW.out w1 g1 1 hv1 (by omega);have c2:=HW.out w1 g1 2 hv1 (by omega);have hy1:=(zx:Ext wr w1);have HP1:=Za (HP.out.ext hy1);have hz1:=Zn w1 _ c0;clear hv1;obtain ⟨y0,y1,y2,y3,y4,y5,y6⟩:=zag (HP.out.at0 (HP.out.b0.trans hy1)).2.1;have yf:=(HP.out.at0 (HP.out.b0.trans hy1)).2.2.2.1;have yz:=(HP.out.at0 (HP.out.b0.trans hy1)).2.2.2.2.2;have HY1:=Za hy1;clear hy1;rw [ay.out] at c0;rw [az.out] at c1;rw [aA.out] at c2;have hne:¬g1=gp:=(by intro e;subst e;rw [c1] at y1;cases y1);have hne2:¬gp=g1:=(fun e=>hne e.symm))))
 have ao:=Za (show some g1≠(Value.slice Ac p.se.length cc).ownBlock from fun e=>by
  have a1:=(an.out.blk g1 e.symm).2
  have a2:=HG1.out
  omega)
 go_region_law (first
  | (go_simp;(go_at_call 79;((with_reducible refine (HN.out _ (HY1.out.trans zx)).mono ?_);rintro e w2 ⟨rfl,hq2⟩;have hx2:=(zx:Ext w1 w2);have af:=Za hx2;obtain ⟨ak,hf2,ab⟩:=af.out.facts;have d1:=(ak _ _ hz1).trans c1;have d2:=(ak _ _ hz1).trans c2;have d6:=(ak _ _ yz).trans y6;have aw:=Za (an.out.ext (HY1.out.trans af.out));have au:=Za ((HP1.out.e2.trans HP1.out.e3).trans af.out);have am:=Za (HY1.out.trans af.out);have HK:=Za (show ∀(wx w3:World),Ext w2 wx->wx.grownBy w3 (Value.slice Ac p.se.length cc).ownBlock->Ext W1 w3->w3.cell? ⟨g1,1,none⟩=some (.string ⟨U1.toArray⟩)/\w3.cell? ⟨g1,2,none⟩=some (.string ⟨U2.toArray⟩)/\w3.cell? ⟨gp,6,none⟩=some (.slice Ac p.se.length cc)/\(∀o,w3.frozen? ⟨gp,o,none⟩=false)/\gp<w3.heap.size from fun wx w3 h1 h2 h3=>⟨But.cellQ h2 (h1.facts.2.2 _ (ab _ hz1)) (ao.out) ((h1.facts.1 _ _ (ab _ hz1)).trans d1),But.cellQ h2 (h1.facts.2.2 _ (ab _ hz1)) (ao.out) ((h1.facts.1 _ _ (ab _ hz1)).trans d2),(HP1.out.at0 (HP1.out.e1.trans h3)).2.1 6 _ rfl,(HP1.out.at0 (HP1.out.e1.trans h3)).2.2.2.1,(HP1.out.at0 (HP1.out.e1.trans h3)).2.2.2.2.2⟩);clear hx2)))
  | (refine zau (S:=shSec) (w:=W1) (xs:=[⟨U1,v,none,0,0⟩]) 40 59 (.agg #[.string ⟨#[]⟩,.int .i64 0,.slice none 0 0]) 48 (by rfl) (by rfl) Tryz.underlying40 zeB (by rfl) (by omega) (by rfl) (by rfl) (aw.out.ext zx) (au.out.trans zx) (Vec.lit2 (w:=w2) (by rfl) (by rfl) (by rfl)) (by omega) ?_;intro v' w3 ae ac aa;obtain ⟨A3,c3,rfl, -⟩:=zav ae;obtain ⟨q1,q2,q5,q6,q7⟩:=HK.out _ _ zx aa.out.1 ac.out;have q65:=q6 6))
 all_goals
  go_wp2_with fail
  go_ret
  exact PLnR.yes HRD.out (HP.out.addSec (am.out.trans zx) ae ac.out aa.out.1 aa.out.2 aB.out ax.out) ((Kp.sec (am.out.trans zx) aa.out).set _ _)
end Go.Proofs.YtkneghkbgingdaaGreatDoor
/- The program's reader at a row's line,and at any line. -/
namespace Go.Proofs.YtkneghkbgingdaaGreatDoor
set_option maxRecDepth 100000
open Go.RowKit Go.ChangeShapes Go.WideShapes Go.Joins
theorem PM.lo {gR gp g2 k cc:Nat} {w w0 W1 W wr:World} {p:PSt} {V1:Value} (h:PM gR gp w w0 W1 W wr p V1 (.slice (some ⟨g2,0,none⟩) (k+1) cc)):W1.heap.size<=g2:=by
 rcases h.se with ⟨_,h1⟩ | ⟨pre,x,xs,A,n,c,_,h2,_⟩
 ·cases h1
 ·exact (h2.blk g2 rfl).1
theorem zmv (gR gp:Nat) (w w0 W1 W wr:World) (p:PSt) (V1 V2:Value) (s:List UInt8) (h:PM gR gp w w0 W1 W wr p V1 V2) (hg:Glob w) (hs:s.length<=60000) (i:Nat) (hi:2<=i) (hse:p.se=[]) (hc:(((spl 32 s).getD 0 []==sw)=false/\((spl 32 s).getD 0 []==cw)=false)∨(((spl 32 s).getD 0 []==sw)=false/\((spl 32 s).getD 0 []==cw)=true/\(((spl 32 s).length:Int)==3)=false) ∨
  (((spl 32 s).getD 0 []==sw)=true/\(((spl 32 s).length:Int)==3)=false/\((spl 32 s).getD 0 []==cw)=false)) :
  Calls Tryz.prog 52 #[.pointer (some ⟨gp,0,none⟩),.int .i64 (i:Int),.string ⟨s.toArray⟩] wr (PLnR gR gp w wr W V1 V2 p i s):=by
 have HP:=Za h
 have HG:=Za (hg.ext h.all)
 have ad:∀(w':World),Ext wr w'->Calls Tryz.prog 50 #[.string ⟨s.toArray⟩,.string ⟨#[32]⟩] w' fun e w''=>∃g,e = .returned (.slice (some ⟨g,0,none⟩) (spl 32 s).length (spl 32 s).length)/\Ext w' w''/\Vec shStr w'' (some ⟨g,0,none⟩) (spl 32 s).length (spl 32 s)/\wr.heap.size<=g:=fun w' hb=>by
  refine (za1 s 32 (by omega) w' (HG.out.ext hb)).mono ?_
  rintro e w9 ⟨g,rfl,h1,h2,h3⟩
  exact ⟨g,rfl,h1,h2,ZD (Zl hb) h3⟩
 have HSP:=Za ad
 have ag:=zbT 32 s
 have ac:=zbb 32 s
 have hw1:=zal 32 s 1
 have hw2:=zal 32 s 2
 obtain ⟨x0,x1,x2,x3,x4,x5,x6⟩:=zag (h.at0 h.b0).2.1
 have xf:=(h.at0 h.b0).2.2.2.1
 have xz:=(h.at0 h.b0).2.2.2.2.2
 have HW:=Za (fun (w':World) (g k:Nat) (h:Vec shStr w' (some ⟨g,0,none⟩) (spl 32 s).length (spl 32 s)) (hk:k<(spl 32 s).length)=>(show w'.cell? ⟨g,k,none⟩=some (.string ⟨((spl 32 s).getD k []).toArray⟩) from by
  obtain ⟨b,off,e,_,h1⟩:=h.word hk
  cases e
  rw [Nat.zero_add] at h1
  exact h1))
 clear ad
 have i0:((i:Int)==0)=false:=by rw [Ze];omega
 have i1:((i:Int)==1)=false:=by rw [Ze];omega
 have hrd:readL atoiO p i s=none:=by
  have h1:¬((spl 32 s).getD 0 []=sw/\(spl 32 s).length=3/\p.se=[]):=by
   rintro ⟨a1,a2, -⟩
   rcases hc with ⟨b1, -⟩ | ⟨b1, -⟩ | ⟨-,b1, -⟩
   ·rw [a1] at b1;simp at b1
   ·rw [a1] at b1;simp at b1
   ·rw [a2] at b1;simp at b1
  have h2:¬((spl 32 s).getD 0 []=cw/\(spl 32 s).length=3):=by
   rintro ⟨a1,a2⟩
   rcases hc with ⟨-,b1⟩ | ⟨-, -,b1⟩ | ⟨-,b1, -⟩
   ·rw [a1] at b1;simp at b1
   ·rw [a2] at b1;simp at b1
   ·rw [a2] at b1;simp at b1
  rw [readL,if_neg (by omega),if_neg (by omega),if_neg h1,if_neg h2,hse]
  rfl
 have HRD:=Za hrd
 obtain ⟨Ac,cc,e2, -,hcc⟩:=h.secs (fun x hx=>by rw [hse] at hx;cases hx) (by rw [hse];exact Zy _)
 have ae:=Za hse
 have m0:((p.se.length:Int)==0)=true:=by rw [ae.out];rfl
 subst e2
 obtain ⟨nw,ab⟩:∃nw,(spl 32 s).length=nw:=⟨_,rfl⟩
 have HNW:=Za ab
 rw [ab] at hc ag ac HSP HW
 obtain ⟨U0,aa⟩:∃U,(spl 32 s).getD 0 []=U:=⟨_,rfl⟩
 rw [aa] at hc
 have af:=Za aa
 clear h hg ab aa hi hrd hse
 simp only [sw,cw] at hc
 rcases hc with ⟨b1,b2⟩ | ⟨b1,b2,b3⟩ | ⟨b1,b2,b3⟩
 all_goals
  go_enter Tryz.func52,Tryz.ntmps52
  go_wp2_with (first
   | (go_at_call 50;((with_reducible refine (HSP.out _ zx).mono ?_);rintro e w1 ⟨g1,rfl,hq1,hv1,hg1⟩;have HG1:=Za hg1;clear hg1;have HV1:=Za hv1;have c0:=HW.out w1 g1 0 hv1 (by omega);have hy1:=(zx:Ext wr w1);have HP1:=Za (HP.out.ext hy1);have hz1:=Zn w1 _ c0;clear hv1;obtain ⟨y0,y1,y2,y3,y4,y5,y6⟩:=zag (HP.out.at0 (HP.out.b0.trans hy1)).2.1;have yf:=(HP.out.at0 (HP.out.b0.trans hy1)).2.2.2.1;have yz:=(HP.out.at0 (HP.out.b0.trans hy1)).2.2.2.2.2;have HY1:=Za hy1;clear hy1;rw [af.out] at c0)))
  go_ret
  exact PLnR.no HP1.out HRD.out HP1.out.b0
theorem zkC (gR gp:Nat) (w w0 W1 W wr:World) (p:PSt) (V1 V2:Value) (s:List UInt8) (h:PM gR gp w w0 W1 W wr p V1 V2) (hg:Glob w) (hs:s.length<=60000) (i:Nat) (hi:2<=i) {pre:List Sec} {x:Sec} (hse:p.se=pre++[x]) (hpl:pre.length<=100000) (hxr:x.rows.length<=100) (had:addP atoiO x.rows s=none) (hc:(((spl 32 s).getD 0 []==sw)=false/\((spl 32 s).getD 0 []==cw)=false)∨(((spl 32 s).getD 0 []==sw)=false/\((spl 32 s).getD 0 []==cw)=true/\(((spl 32 s).length:Int)==3)=false) ∨
  (((spl 32 s).getD 0 []==sw)=true/\(((spl 32 s).length:Int)==3)=false/\((spl 32 s).getD 0 []==cw)=false)∨(((spl 32 s).getD 0 []==sw)=true/\(((spl 32 s).length:Int)==3)=true/\((p.se.length:Int)==0)=false/\((spl 32 s).getD 0 []==cw)=false)) :
  Calls Tryz.prog 52 #[.pointer (some ⟨gp,0,none⟩),.int .i64 (i:Int),.string ⟨s.toArray⟩] wr (PLnR gR gp w wr W V1 V2 p i s):=by
 have ad:p.se.length=pre.length+1:=by rw [hse];simp
 have aq:=h.last hse
 obtain ⟨g2,cc,A,n,c,eV,ac,aa,ap,ab,ai⟩:=aq
 have aj:W1.heap.size<=g2:=by subst eV;exact h.lo
 obtain ⟨m,hm⟩:∃m,pre.length+1=m:=⟨_,rfl⟩
 rw [hm] at eV ad
 subst eV
 have hw9:IntKind.i64.wrap ((m:Int)-1)=(pre.length:Int):=by rw [Zh ((m:Int)-1) ⟨by omega,by omega⟩];omega
 have hkm:(pre.length:Int)<(m:Int):=by omega
 have hk0:(0:Int)<=(pre.length:Int):=by omega
 have ar:g2<wr.heap.size:=Zo ac (Zl h.e3)
 have HP:=Za h
 have HG:=Za (hg.ext h.all)
 have al:∀(w':World),Ext wr w'->Calls Tryz.prog 50 #[.string ⟨s.toArray⟩,.string ⟨#[32]⟩] w' fun e w''=>∃g,e = .returned (.slice (some ⟨g,0,none⟩) (spl 32 s).length (spl 32 s).length)/\Ext w' w''/\Vec shStr w'' (some ⟨g,0,none⟩) (spl 32 s).length (spl 32 s)/\wr.heap.size<=g:=fun w' hb=>by
  refine (za1 s 32 (by omega) w' (HG.out.ext hb)).mono ?_
  rintro e w9 ⟨g,rfl,h1,h2,h3⟩
  exact ⟨g,rfl,h1,h2,ZD (Zl hb) h3⟩
 have HSP:=Za al
 have au:=zbT 32 s
 have ah:=zbb 32 s
 have hw1:=zal 32 s 1
 have hw2:=zal 32 s 2
 obtain ⟨x0,x1,x2,x3,x4,x5,x6⟩:=zag (h.at0 h.b0).2.1
 have xf:=(h.at0 h.b0).2.2.2.1
 have xz:=(h.at0 h.b0).2.2.2.2.2
 have HW:=Za (fun (w':World) (g k:Nat) (h:Vec shStr w' (some ⟨g,0,none⟩) (spl 32 s).length (spl 32 s)) (hk:k<(spl 32 s).length)=>(show w'.cell? ⟨g,k,none⟩=some (.string ⟨((spl 32 s).getD k []).toArray⟩) from by
  obtain ⟨b,off,e,_,h1⟩:=h.word hk
  cases e
  rw [Nat.zero_add] at h1
  exact h1))
 clear al
 have i0:((i:Int)==0)=false:=by rw [Ze];omega
 have i1:((i:Int)==1)=false:=by rw [Ze];omega
 have hrd:readL atoiO p i s=none:=by
  have h1:¬((spl 32 s).getD 0 []=sw/\(spl 32 s).length=3/\p.se=[]):=by
   rintro ⟨-, -,a3⟩
   rw [hse] at a3
   simp at a3
  have h2:¬((spl 32 s).getD 0 []=cw/\(spl 32 s).length=3):=by
   rintro ⟨a1,a2⟩
   rcases hc with ⟨-,b1⟩ | ⟨-, -,b1⟩ | ⟨-,b1, -⟩ | ⟨-, -, -,b1⟩
   ·rw [a1] at b1;simp at b1
   ·rw [a2] at b1;simp at b1
   ·rw [a2] at b1;simp at b1
   ·rw [a1] at b1;simp at b1
  have h3:p.se.getLast?=some x:=by rw [hse];simp
  have h4:p.se.dropLast=pre:=by rw [hse];simp
  rw [readL,if_neg (by omega),if_neg (by omega),if_neg h1,if_neg h2,h3,h4]
  simp only [had]
  rfl
 have HRD:=Za hrd
 have hnl:=ab.len
 have am:=Za (fun (w':World) (hb:Ext wr w')=>(show Calls Tryz.prog 46 #[.slice A n c,.string ⟨s.toArray⟩] w' fun e w''=>∃(A':Option Addr) (n' c':Nat),e = .returned (.tuple #[.slice A' n' c',.bool false])/\Ext W w'' from by
  refine (zhU W w' A n c x.rows s (HP.out.e3.trans hb) (ab.ext hb) (by omega) (by omega) (HG.out.ext hb)).mono ?_
  rintro e w'' ⟨V,ok,rfl,hx,h9⟩
  rw [had] at h9
  rcases h9 with ⟨-,rfl,A',n',c',rfl⟩ | ⟨l',h9, -⟩
  ·exact ⟨A',n',c',rfl,hx⟩
  ·cases h9))
 have HGO:=Za ai
 have m0:((p.se.length:Int)==0)=false:=by rw [ad,Ze];omega
 have HSL:=Za ad
 rw [ad] at hc m0
 obtain ⟨nw,ag⟩:∃nw,(spl 32 s).length=nw:=⟨_,rfl⟩
 have HNW:=Za ag
 rw [ag] at hc au ah HSP HW
 obtain ⟨U0,af⟩:∃U,(spl 32 s).getD 0 []=U:=⟨_,rfl⟩
 rw [af] at hc
 have ao:=Za af
 generalize pre.length=k at *
 have x7:=(Zs (p:=⟨g2,k*3+2,none⟩) h.e3 ac).trans aa
 have an:=Za aj
 have HSN:=Za (show p.se≠[] by rw [hse];simp)
 clear h hg ag af hi hrd ai ad aj ab had hm hse
 simp only [sw,cw] at hc
 rcases hc with ⟨b1,b2⟩ | ⟨b1,b2,b3⟩ | ⟨b1,b2,b3⟩ | ⟨b1,b2,b3,b4⟩
 all_goals
  go_enter Tryz.func52,Tryz.ntmps52
  go_wp2_with (first
   | (go_at_call 50;((with_reducible refine (HSP.out _ zx).mono ?_);rintro e w1 ⟨g1,rfl,hq1,hv1,hg1⟩;have HG1:=Za hg1;clear hg1;have HV1:=Za hv1;have c0:=HW.out w1 g1 0 hv1 (by omega);have hy1:=(zx:Ext wr w1);have HP1:=Za (HP.out.ext hy1);have hz1:=Zn w1 _ c0;clear hv1;obtain ⟨y0,y1,y2,y3,y4,y5,y6⟩:=zag (HP.out.at0 (HP.out.b0.trans hy1)).2.1;have yf:=(HP.out.at0 (HP.out.b0.trans hy1)).2.2.2.1;have yz:=(HP.out.at0 (HP.out.b0.trans hy1)).2.2.2.2.2;have HY1:=Za hy1;clear hy1;rw [ao.out] at c0)))
  go_region_held3 (fun wx=>wx.cell? ⟨gp,6,none⟩=some (.slice (some ⟨g2,0,none⟩) m cc)) (go_keep) (first | fail)
  have y7:w1.cell? ⟨g2,k*3+1+1,none⟩=some (.slice A n c):=(HY1.out.facts.1 _ _ ar).trans x7
  go_wp2_with (first
   | (go_at_call 46;((with_reducible refine (am.out _ (HY1.out.trans zx)).mono ?_);rintro e w2 ⟨A9,n9,c9,rfl,ak⟩;have ae:=Za ak;have r7:w2.cell? ⟨g2,k*3+1+1,none⟩=some (.slice A n c):=(ae.out.facts.1 _ _ ac).trans aa;have r8:w2.frozen? ⟨g2,k*3+1+1,none⟩=false:=(ae.out.facts.2.1 _ _ ac).trans ap;have r9:g2<w2.heap.size:=ae.out.facts.2.2 _ ac;clear ak)))
  go_ret
  exact PLnR.no HP.out HRD.out (Zr (HP.out.e1.trans (HP.out.e2.trans ae.out)) (by have a1:=Zl HP.out.e1;have a2:=an.out;simp only;omega) _)
theorem zkB (gR gp:Nat) (w w0 W1 W wr:World) (p:PSt) (V1 V2:Value) (s:List UInt8) (h:PM gR gp w w0 W1 W wr p V1 V2) (hg:Glob w) (hs:s.length<=60000) (i:Nat) (hi:2<=i) {pre:List Sec} {x:Sec} {l:List Ro} (hse:p.se=pre++[x]) (hpl:pre.length<=100000) (hxr:x.rows.length<=100) (had:addP atoiO x.rows s=some l) (hc:(((spl 32 s).getD 0 []==sw)=false/\((spl 32 s).getD 0 []==cw)=false)∨(((spl 32 s).getD 0 []==sw)=false/\((spl 32 s).getD 0 []==cw)=true/\(((spl 32 s).length:Int)==3)=false) ∨
  (((spl 32 s).getD 0 []==sw)=true/\(((spl 32 s).length:Int)==3)=false/\((spl 32 s).getD 0 []==cw)=false)∨(((spl 32 s).getD 0 []==sw)=true/\(((spl 32 s).length:Int)==3)=true/\((p.se.length:Int)==0)=false/\((spl 32 s).getD 0 []==cw)=false)) :
  Calls Tryz.prog 52 #[.pointer (some ⟨gp,0,none⟩),.int .i64 (i:Int),.string ⟨s.toArray⟩] wr (PLnR gR gp w wr W V1 V2 p i s):=by
 have ae:p.se.length=pre.length+1:=by rw [hse];simp
 have av:=h.last hse
 obtain ⟨g2,cc,A,n,c,eV,ad,aa,au,ab,ai⟩:=av
 have aj:W1.heap.size<=g2:=by subst eV;exact h.lo
 obtain ⟨m,hm⟩:∃m,pre.length+1=m:=⟨_,rfl⟩
 rw [hm] at eV ae
 subst eV
 have hw9:IntKind.i64.wrap ((m:Int)-1)=(pre.length:Int):=by rw [Zh ((m:Int)-1) ⟨by omega,by omega⟩];omega
 have hkm:(pre.length:Int)<(m:Int):=by omega
 have hk0:(0:Int)<=(pre.length:Int):=by omega
 have aw:g2<wr.heap.size:=Zo ad (Zl h.e3)
 have HP:=Za h
 have HG:=Za (hg.ext h.all)
 have am:∀(w':World),Ext wr w'->Calls Tryz.prog 50 #[.string ⟨s.toArray⟩,.string ⟨#[32]⟩] w' fun e w''=>∃g,e = .returned (.slice (some ⟨g,0,none⟩) (spl 32 s).length (spl 32 s).length)/\Ext w' w''/\Vec shStr w'' (some ⟨g,0,none⟩) (spl 32 s).length (spl 32 s)/\wr.heap.size<=g:=fun w' hb=>by
  refine (za1 s 32 (by omega) w' (HG.out.ext hb)).mono ?_
  rintro e w9 ⟨g,rfl,h1,h2,h3⟩
  exact ⟨g,rfl,h1,h2,ZD (Zl hb) h3⟩
 have HSP:=Za am
 have ax:=zbT 32 s
 have ah:=zbb 32 s
 have hw1:=zal 32 s 1
 have hw2:=zal 32 s 2
 obtain ⟨x0,x1,x2,x3,x4,x5,x6⟩:=zag (h.at0 h.b0).2.1
 have xf:=(h.at0 h.b0).2.2.2.1
 have xz:=(h.at0 h.b0).2.2.2.2.2
 have HW:=Za (fun (w':World) (g k:Nat) (h:Vec shStr w' (some ⟨g,0,none⟩) (spl 32 s).length (spl 32 s)) (hk:k<(spl 32 s).length)=>(show w'.cell? ⟨g,k,none⟩=some (.string ⟨((spl 32 s).getD k []).toArray⟩) from by
  obtain ⟨b,off,e,_,h1⟩:=h.word hk
  cases e
  rw [Nat.zero_add] at h1
  exact h1))
 clear am
 have i0:((i:Int)==0)=false:=by rw [Ze];omega
 have i1:((i:Int)==1)=false:=by rw [Ze];omega
 have hrd:readL atoiO p i s=some { p with se:=pre++[{ x with rows:=l }] }:=by
  have h1:¬((spl 32 s).getD 0 []=sw/\(spl 32 s).length=3/\p.se=[]):=by
   rintro ⟨-, -,a3⟩
   rw [hse] at a3
   simp at a3
  have h2:¬((spl 32 s).getD 0 []=cw/\(spl 32 s).length=3):=by
   rintro ⟨a1,a2⟩
   rcases hc with ⟨-,b1⟩ | ⟨-, -,b1⟩ | ⟨-,b1, -⟩ | ⟨-, -, -,b1⟩
   ·rw [a1] at b1;simp at b1
   ·rw [a2] at b1;simp at b1
   ·rw [a2] at b1;simp at b1
   ·rw [a1] at b1;simp at b1
  have h3:p.se.getLast?=some x:=by rw [hse];simp
  have h4:p.se.dropLast=pre:=by rw [hse];simp
  rw [readL,if_neg (by omega),if_neg (by omega),if_neg h1,if_neg h2,h3,h4]
  simp only [had]
  rfl
 have HRD:=Za hrd
 have hnl:=ab.len
 have an:=Za (fun (w':World) (hb:Ext wr w')=>(show Calls Tryz.prog 46 #[.slice A n c,.string ⟨s.toArray⟩] w' fun e w''=>∃(A':Option Addr) (n' c':Nat),e = .returned (.tuple #[.slice A' n' c',.bool true])/\Ext W w''/\OwnQ w'' W.heap.size 75 (.slice A' n' c') n' l from by
  refine (zhU W w' A n c x.rows s (HP.out.e3.trans hb) (ab.ext hb) (by omega) (by omega) (HG.out.ext hb)).mono ?_
  rintro e w'' ⟨V,ok,rfl,hx,h9⟩
  rw [had] at h9
  rcases h9 with ⟨h9, -⟩ | ⟨l',h9,rfl,h8⟩
  ·cases h9
  ·cases h9;have h7:=h8.len;obtain ⟨A',c',rfl, -⟩:=zbE h8 (by have:=zhe had;omega);exact ⟨A',_,c',rfl,hx,h8⟩))
 have ao:=Za ai
 have m0:((p.se.length:Int)==0)=false:=by rw [ae,Ze];omega
 have HSL:=Za ae
 rw [ae] at hc m0
 obtain ⟨nw,ag⟩:∃nw,(spl 32 s).length=nw:=⟨_,rfl⟩
 have HNW:=Za ag
 rw [ag] at hc ax ah HSP HW
 obtain ⟨U0,af⟩:∃U,(spl 32 s).getD 0 []=U:=⟨_,rfl⟩
 rw [af] at hc
 have ar:=Za af
 generalize pre.length=k at *
 have x7:=(Zs (p:=⟨g2,k*3+2,none⟩) h.e3 ad).trans aa
 have HLO:=Za aj
 have aq:=Za (show p.se≠[] by rw [hse];simp)
 clear h hg ag af hi hrd ai ae aj ab had hm hse
 simp only [sw,cw] at hc
 rcases hc with ⟨b1,b2⟩ | ⟨b1,b2,b3⟩ | ⟨b1,b2,b3⟩ | ⟨b1,b2,b3,b4⟩
 all_goals
  go_enter Tryz.func52,Tryz.ntmps52
  go_wp2_with (first
   | (go_at_call 50;((with_reducible refine (HSP.out _ zx).mono ?_);rintro e w1 ⟨g1,rfl,hq1,hv1,hg1⟩;have HG1:=Za hg1;clear hg1;have HV1:=Za hv1;have c0:=HW.out w1 g1 0 hv1 (by omega);have hy1:=(zx:Ext wr w1);have HP1:=Za (HP.out.ext hy1);have hz1:=Zn w1 _ c0;clear hv1;obtain ⟨y0,y1,y2,y3,y4,y5,y6⟩:=zag (HP.out.at0 (HP.out.b0.trans hy1)).2.1;have yf:=(HP.out.at0 (HP.out.b0.trans hy1)).2.2.2.1;have yz:=(HP.out.at0 (HP.out.b0.trans hy1)).2.2.2.2.2;have HY1:=Za hy1;clear hy1;rw [ar.out] at c0)))
  go_region_held3 (fun wx=>wx.cell? ⟨gp,6,none⟩=some (.slice (some ⟨g2,0,none⟩) m cc)) (go_keep) (first | fail)
  have y7:w1.cell? ⟨g2,k*3+1+1,none⟩=some (.slice A n c):=(HY1.out.facts.1 _ _ aw).trans x7
  go_wp2_with (first
   | (go_at_call 46;((with_reducible refine (an.out _ (HY1.out.trans zx)).mono ?_);rintro e w2 ⟨A9,n9,c9,rfl,al,ak⟩;have ac:=Za al;have ap:=Za ak;clear ak;have r7:w2.cell? ⟨g2,k*3+1+1,none⟩=some (.slice A n c):=(ac.out.facts.1 _ _ ad).trans aa;have r8:w2.frozen? ⟨g2,k*3+1+1,none⟩=false:=(ac.out.facts.2.1 _ _ ad).trans au;have r9:g2<w2.heap.size:=ac.out.facts.2.2 _ ad;clear al)))
  go_ret
  exact PLnR.yes HRD.out (ao.out w2 A9 n9 c9 l ac.out ap.out) (Kp.add HP.out.e3 ac.out rfl aq.out)
theorem zmu (gR gp:Nat) (w w0 W1 W wr:World) (p:PSt) (V1 V2:Value) (s:List UInt8) (h:PM gR gp w w0 W1 W wr p V1 V2) (hg:Glob w) (hs:s.length<=60000) (i:Nat) (hst:p.st.length<=100000) (hse:p.se.length<=100000) (hrw:∀x∈p.se,x.rows.length<=100) :
  Calls Tryz.prog 52 #[.pointer (some ⟨gp,0,none⟩),.int .i64 (i:Int),.string ⟨s.toArray⟩] wr (PLnR gR gp w wr W V1 V2 p i s):=by
 rcases Z0 i 2 with hlt | hi
 ·rcases i with _ | _ | i
  ·exact zob gR gp w w0 W1 W wr p V1 V2 s h hg hs
  ·exact zoc gR gp w w0 W1 W wr p V1 V2 s h hg hs
  ·omega
 ·by_cases hA:(spl 32 s).getD 0 []=sw/\(spl 32 s).length=3/\p.se=[]
  ·exact zmw gR gp w w0 W1 W wr p V1 V2 s h hg hs i hi hst hse hrw hA.1 hA.2.1 hA.2.2
  ·by_cases hB:(spl 32 s).getD 0 []=cw/\(spl 32 s).length=3
   ·exact zkD gR gp w w0 W1 W wr p V1 V2 s h hg hs i hi hse hrw hB.1 hB.2
   ·have key:(((spl 32 s).getD 0 []==sw)=false/\((spl 32 s).getD 0 []==cw)=false)∨(((spl 32 s).getD 0 []==sw)=false/\((spl 32 s).getD 0 []==cw)=true/\(((spl 32 s).length:Int)==3)=false) ∨
      (((spl 32 s).getD 0 []==sw)=true/\(((spl 32 s).length:Int)==3)=false/\((spl 32 s).getD 0 []==cw)=false)∨(((spl 32 s).getD 0 []==sw)=true/\(((spl 32 s).length:Int)==3)=true/\¬p.se=[]/\((spl 32 s).getD 0 []==cw)=false):=by
     by_cases h1:(spl 32 s).getD 0 []=sw
     ·have e1:((spl 32 s).getD 0 []==sw)=true:=by rw [h1];rfl
      have e2:((spl 32 s).getD 0 []==cw)=false:=by rw [h1];rfl
      by_cases h2:(spl 32 s).length=3
      ·have e3:(((spl 32 s).length:Int)==3)=true:=by rw [h2];rfl
       exact .inr (.inr (.inr ⟨e1,e3,fun h3=>hA ⟨h1,h2,h3⟩,e2⟩))
      ·have e3:(((spl 32 s).length:Int)==3)=false:=by rw [Ze];omega
       exact .inr (.inr (.inl ⟨e1,e3,e2⟩))
     ·have e1:((spl 32 s).getD 0 []==sw)=false:=by rw [Ze];exact h1
      by_cases h2:(spl 32 s).getD 0 []=cw
      ·have e2:((spl 32 s).getD 0 []==cw)=true:=by rw [h2];rfl
       have e3:(((spl 32 s).length:Int)==3)=false:=by rw [Ze];intro h3;exact hB ⟨h2,by omega⟩
       exact .inr (.inl ⟨e1,e2,e3⟩)
      ·have e2:((spl 32 s).getD 0 []==cw)=false:=by rw [Ze];exact h2
       exact .inl ⟨e1,e2⟩
    by_cases h0:p.se=[]
    ·exact zmv gR gp w w0 W1 W wr p V1 V2 s h hg hs i hi h0 (by
      rcases key with k1 | k1 | k1 | k1
      ·exact .inl k1
      ·exact .inr (.inl k1)
      ·exact .inr (.inr k1)
      ·exact absurd h0 k1.2.2.1)
    ·have e5:p.se=p.se.dropLast++[p.se.getLast h0]:=(List.dropLast_concat_getLast h0).symm
     have ab:=hrw (p.se.getLast h0) (List.getLast_mem h0)
     have hc:(((spl 32 s).getD 0 []==sw)=false/\((spl 32 s).getD 0 []==cw)=false)∨(((spl 32 s).getD 0 []==sw)=false/\((spl 32 s).getD 0 []==cw)=true/\(((spl 32 s).length:Int)==3)=false) ∨
      (((spl 32 s).getD 0 []==sw)=true/\(((spl 32 s).length:Int)==3)=false/\((spl 32 s).getD 0 []==cw)=false)∨(((spl 32 s).getD 0 []==sw)=true/\(((spl 32 s).length:Int)==3)=true/\((p.se.length:Int)==0)=false/\((spl 32 s).getD 0 []==cw)=false):=by
      have e6:((p.se.length:Int)==0)=false:=by
       rw [Ze]
       intro e
       exact h0 (List.length_eq_zero_iff.1 (by omega))
      rcases key with k1 | k1 | k1 | k1
      ·exact .inl k1
      ·exact .inr (.inl k1)
      ·exact .inr (.inr (.inl k1))
      ·exact .inr (.inr (.inr ⟨k1.1,k1.2.1,e6,k1.2.2.2⟩))
     have aa:p.se.dropLast.length<=100000:=by rw [List.length_dropLast];omega
     rcases had:addP atoiO (p.se.getLast h0).rows s with _ | l
     ·exact zkC gR gp w w0 W1 W wr p V1 V2 s h hg hs i hi e5 aa ab had hc
     ·exact zkB gR gp w w0 W1 W wr p V1 V2 s h hg hs i hi e5 aa ab had hc
end Go.Proofs.YtkneghkbgingdaaGreatDoor
/- What the program's reader of patterns holds after some lines,plain. -/
namespace Go.Proofs.YtkneghkbgingdaaGreatDoor
set_option maxRecDepth 100000
def lsum (L:List (List UInt8)):Nat:=(L.map fun x=>x.length+1).sum
theorem zcm (x:List UInt8) (L:List (List UInt8)):lsum (x::L)=x.length+1+lsum L:=by simp [lsum]
theorem zhS (a b:List (List UInt8)):lsum (a++b)=lsum a+lsum b:=by simp [lsum]
theorem zld (c:UInt8):∀s:List UInt8,lsum (spl c s)=s.length+1:=by
 intro s
 induction s with
 | nil=>simp [spl,lsum]
 | cons x l ih =>
  rw [spl]
  split
  ·rw [zcm,ih];simp;omega
  ·split
   ·rename_i h t e
    rw [e,zcm] at ih
    rw [zcm]
    simp only [Zk]
    omega
   ·rename_i e
    exact absurd e (zee c l)
def PB (n:Nat) (p:PSt):Prop:=p.st.length*8+p.se.length*8<=n/\p.nm.length<=60000/\(∀x∈p.st,x.nm.length<=60000)/\(∀x∈p.se,x.nm.length<=60000/\x.rows.length<=100)
theorem PB.zero:PB 0 pst0:=⟨by simp [pst0],by simp [pst0],fun x hx=>by simp [pst0] at hx,fun x hx=>by simp [pst0] at hx⟩
theorem zgg {s:List UInt8} {a:List UInt8} (h0:(spl 32 s).getD 0 []=a) (h1:(spl 32 s).length=3):a.length+3<=s.length+1:=by
 have h:=zld 32 s
 rcases hl:spl 32 s with _ | ⟨x,_ | ⟨y,_ | ⟨z,_ | ⟨u,r⟩⟩⟩⟩
 ·rw [hl] at h1;simp at h1
 ·rw [hl] at h1;simp at h1
 ·rw [hl] at h1;simp at h1
 ·rw [hl] at h h0
  simp [lsum] at h h0
  subst h0
  omega
 ·rw [hl] at h1;simp at h1
theorem zmC {at_:List UInt8->Option Int} {p p':PSt} {i n:Nat} {s:List UInt8} (h:readL at_ p i s=some p') (hp:PB n p) (hs:s.length<=60000):PB (n+(s.length+1)) p':=by
 obtain ⟨b1,b2,b3,b4⟩:=hp
 unfold readL at h
 split at h
 ·split at h
  ·cases h
   exact ⟨by simp only;omega,ZD (zal 32 s 1) hs,b3,b4⟩
  ·cases h
 ·split at h
  ·split at h
   ·cases h
    exact ⟨by simp only;omega,b2,b3,b4⟩
   ·cases h
  ·split at h
   ·rename_i hA
    cases h
    have h8:=zgg hA.1 hA.2.1
    have h9:sw.length=5:=rfl
    refine ⟨by simp only [Zb,Zv];omega,b2,fun x hx=>?_,b4⟩
    rcases ZA.1 hx with hx | hx
    ·exact b3 x hx
    ·rw [ZY] at hx
     subst hx
     exact ZD (zal 32 s 1) hs
   ·split at h
    ·rename_i hB
     cases h
     have h8:=zgg hB.1 hB.2
     have h9:cw.length=7:=rfl
     refine ⟨by simp only [Zb,Zv];omega,b2,b3,fun x hx=>?_⟩
     rcases ZA.1 hx with hx | hx
     ·exact b4 x hx
     ·rw [ZY] at hx
      subst hx
      exact ⟨ZD (zal 32 s 1) hs,Zy _⟩
    ·split at h
     ·cases h
     ·rename_i x hx
      obtain ⟨l,h1,rfl⟩:=ZH.1 h
      have hm:x∈p.se:=List.mem_of_getLast? hx
      have hne:p.se≠[]:=by intro e;rw [e] at hm;cases hm
      have hlen:0<p.se.length:=ZM.2 hne
      refine ⟨by simp only [Zb,Zv,List.length_dropLast];omega,b2,b3,fun y hy=>?_⟩
      rcases ZA.1 hy with hy | hy
      ·exact b4 y (List.dropLast_subset _ hy)
      ·rw [ZY] at hy
       subst hy
       exact ⟨(b4 x hm).1,zhe h1⟩
theorem zfN {at_:List UInt8->Option Int} {L:List (List UInt8)} {k:Nat} {p:PSt} (hk:k<L.length) (h:readAll at_ (L.take k) 0 pst0=some p):readAll at_ (L.take (k+1)) 0 pst0=readL at_ p k (L.getD k []):=by
 have e:L.take (k+1)=L.take k++[L.getD k []]:=by
  rw [List.take_add_one,Zd hk,Zc,Zd hk]
  rfl
 rw [e,zbG,h,Zz,Zx,Nat.min_eq_left (by omega),Nat.zero_add,readAll]
 cases readL at_ p k (L.getD k []) <;> rfl
theorem zgQ {at_:List UInt8->Option Int} {L:List (List UInt8)} {k:Nat} (hk:readAll at_ (L.take k) 0 pst0=none):readAll at_ L 0 pst0=none:=by
 have e:L=L.take k++L.drop k:=(Z4 k L).symm
 rw [e,zbG,hk]
 rfl
theorem zdz (L:List (List UInt8)) (k:Nat):lsum (L.take k)<=lsum L:=by
 have e:lsum L=lsum (L.take k)+lsum (L.drop k):=by rw [<-zhS,Z4]
 omega
theorem zki {L:List (List UInt8)} {k:Nat} (hk:k<L.length):lsum (L.take (k+1))=lsum (L.take k)+((L.getD k []).length+1):=by
 have e:L.take (k+1)=L.take k++[L.getD k []]:=by
  rw [List.take_add_one,Zd hk,Zc,Zd hk]
  rfl
 rw [e,zhS,zcm]
 simp [lsum]
end Go.Proofs.YtkneghkbgingdaaGreatDoor
/- The chapter's examples,plain. -/
namespace Go.Proofs.YtkneghkbgingdaaGreatDoor
set_option maxRecDepth 100000
theorem zbx (a b c d:Int) (h:gerr a b c d=0):(0<=a/\a<=100000)/\(0<=b/\b<=100000)/\(0<=c/\c<=100000)/\(0<=d/\d<=100000):=by
 unfold gerr at h
 split at h
 ·rename_i hk
  simp only [gok,ginR,Zt,ZG] at hk
  omega
 ·omega
end Go.Proofs.YtkneghkbgingdaaGreatDoor
