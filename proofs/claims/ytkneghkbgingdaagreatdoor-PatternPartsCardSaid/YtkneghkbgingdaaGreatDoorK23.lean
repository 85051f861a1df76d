/- Parse of stitches. -/
import Derived.Test.YtkneghkbgingdaaGreatDoorK22
import Derived.Test.YtkneghkbgingdaaGreatDoorK18
set_option maxHeartbeats 16000000
namespace Go.Proofs.YtkneghkbgingdaaGreatDoor
set_option maxRecDepth 100000
open Go.RowKit Go.ChangeShapes Go.WideShapes Go.Joins
theorem ziO (c:UInt8):0≤kindL c∧kindL c≤255:=by
 unfold kindL
 repeat' split
 all_goals omega
theorem ze9 (p:Bool) (c:UInt8) (r:List UInt8):0≤(readK p c r).k∧(readK p c r).k≤255:=ziO c
theorem zjg (l:List UInt8):(1≤(readW l).2∧(readW l).2≤201)∧0≤(readW l).1.k∧(readW l).1.k≤255:=by
 have h0:(0:Int)≤st0.k∧st0.k≤255:=by decide
 unfold readW
 repeat' split
 all_goals (refine ⟨⟨?_,?_⟩,?_,?_⟩ <;> first | (simp;done) | (simp only;omega) | exact h0.1 | exact h0.2 | exact (ze9 _ _ _).1 | exact (ze9 _ _ _).2)
def parseE (s:List UInt8):Int:=if (parseL s).isSome then 0 else 12
def parseV (s:List UInt8):List St:=(parseL s).getD []
def ParseR (s:List UInt8) (w:World) (e:Ending) (w':World):Prop:=∃v,e = .returned (.tuple #[v,.int .i64 (parseE s)])∧OwnV shSt w' w.heap.size 132 v (parseV s).length (parseV s)∧Ext w w'
theorem zdE {s:List UInt8} (h:parseL s=none):parseE s=12∧parseV s=[]:=by
 unfold parseE parseV
 rw [h]
 exact ⟨rfl,rfl⟩
theorem zbS {s:List UInt8} {l:List St} (h:parseL s=some l):parseE s=0∧parseV s=l:=by
 unfold parseE parseV
 rw [h]
 exact ⟨rfl,rfl⟩
theorem zaz {s:List UInt8} {w w':World} (h:parseL s=none) (hb:Ext w w'):ParseR s w (.returned (.tuple #[.slice none 0 0,.int .i64 12])) w':=by
 obtain ⟨h1,h2⟩:=zdE h
 refine ⟨_,by rw [h1],?_,hb⟩
 rw [h2]
 exact OwnV.nil _ _ _ _
theorem zbR {s:List UInt8} {l:List St} {v:Value} {w w':World} (h:parseL s=some l) (hv:OwnV shSt w' w.heap.size 132 v l.length l) (hb:Ext w w'):ParseR s w (.returned (.tuple #[v,.int .i64 0])) w':=by
 obtain ⟨h1,h2⟩:=zbS h
 refine ⟨v,by rw [h1],?_,hb⟩
 rw [h2]
 exact hv
theorem zhu {s:List UInt8} {acc:List St} (hs:s.length≤3000) (h0:s≠[]) (h:parseGo [] (spl 32 s)=some acc):parseL s=if allE acc=0∧textL acc=s then some acc else none:=by
 rw [parseL,if_neg (by omega),parseW,if_neg h0,h]
 rfl
theorem zht {s:List UInt8} (hs:s.length≤3000) (h0:s≠[]) (h:parseGo [] (spl 32 s)=none):parseL s=none:=by
 rw [parseL,if_neg (by omega),parseW,if_neg h0,h]
 rfl
theorem zmp {ws:List (List UInt8)} {k:Nat} (hk:k<ws.length) (acc:List St):parseGo acc (ws.drop k)=if okSt (readW (ws.getD k [])).1=true∧(acc.length:Int)+(readW (ws.getD k [])).2≤200 then parseGo (acc++List.replicate (readW (ws.getD k [])).2.toNat (readW (ws.getD k [])).1) (ws.drop (k+1)) else none:=by
 rw [Z4 hk,parseGo,Zc,Zg hk]
 rfl
theorem zha {w:World} {g n:Nat} {ws:List (List UInt8)} (h:Vec shStr w (some ⟨g,0,none⟩) n ws) {k:Nat} (hk:k<n):w.cell? ⟨g,k,none⟩=some (.string ⟨(ws.getD k []).toArray⟩):=by
 have hl:=h.1
 have h1:=h.cells_at k (.string ⟨(ws.getD k []).toArray⟩) (by rw [zgJ,List.getElem?_map,Zc,Zg (by omega)];rfl)
 rw [show Addr.add ⟨g,0,none⟩ k=⟨g,k,none⟩ by cases k <;> simp [Addr.add]] at h1
 exact h1
theorem zam (c:UInt8) (l:List UInt8):(spl c l).length≤l.length+1∧∀x∈spl c l,x.length≤l.length:=by
 induction l with
 | nil=>simp [spl]
 | cons a l ih =>
  obtain ⟨i1,i2⟩:=ih
  unfold spl
  split
  ·refine ⟨by simp;omega,fun x hx=>?_⟩
   rcases ZG.1 hx with rfl | hx
   ·simp
   ·have:=i2 x hx;simp;omega
  ·split
   ·rename_i h t e
    rw [e] at i1 i2
    refine ⟨by simp at i1 ⊢;omega,fun x hx=>?_⟩
    rcases ZG.1 hx with rfl | hx
    ·have:=i2 h (by simp);simp;omega
    ·have:=i2 x (by simp [hx]);simp;omega
   ·exact ⟨by simp,fun x hx=>by simp at hx;subst hx;simp⟩
theorem OwnV.down {α:Type} {S:Shp α} {w:World} {B B':Nat} {e:TypeId} {v:Value} {k:Nat} {L:List α} (h:OwnV S w B e v k L) (hb:B'≤B):OwnV S w B' e v k L :=
 ⟨h.1,h.2.imp id fun ⟨g,cap,cur,h0,hB,r⟩=>⟨g,cap,cur,h0,ZB hb hB,r⟩⟩
theorem zbN {l:List St} (h:allB l=true):Bytes l:=zgw fun s hs=>by
 obtain ⟨hk, -⟩:=zlP (Zq.1 h s hs)
 rcases zay hk with e | e | e | e | e | e | e | e | e | e <;> omega
theorem zhw (l:List UInt8) (hl:3000<l.length) (h:(l.length:Int)≤1000000000) (w:World):Calls Tryz.prog 188 #[.string ⟨l.toArray⟩] w (ParseR l w):=by
 have h1:=Za (show parseL l=none by rw [parseL,if_pos hl])
 have h2:(3000:Int)<(l.length:Int):=by omega
 clear hl
 go_enter Tryz.func188,Tryz.ntmps188
 go_wp2_with fail
 go_ret2
 exact zaz h1.out zx
theorem zhx (l:List UInt8) (h0:l≠[]) (hl:l.length≤3000) (w:World) (hg:Glob w):Calls Tryz.prog 188 #[.string ⟨l.toArray⟩] w (ParseR l w):=by
 have HG:=Za hg
 have HS:=Za (zfm l 32 (by omega) w hg)
 have hwl:=zam 32 l
 have HPE:=Za (fun (acc:List St) (h:parseGo [] (spl 32 l)=some acc)=>zhu hl h0 h)
 have HPB:=Za (fun (h:parseGo [] (spl 32 l)=none)=>zht hl h0 h)
 generalize spl 32 l=ws at *
 obtain ⟨hw1,hw2⟩:=hwl
 have HW:=Za hw2
 have hlen:¬(3000:Int)<(l.length:Int):=by omega
 have hE:(l==[])=false:=by simpa using h0
 clear hg hw2 h0
 go_enter Tryz.func188,Tryz.ntmps188
 go_wp2_with (go_at_call 50;((with_reducible refine HS.out.mono ?_);rintro e w1 ⟨g,n,rfl,hq1,hv1⟩;have HQ1:=Za hq1;have HV1:=Za hv1;clear hq1 hv1))
 have hn:ws.length=n:=HV1.out.1
 have hn2:n≤3001:=by omega
 go_loopw [4,15] (fun u i wr=>∃(V:Value) (k:Nat) (acc:List St),V=u∧i = .int .i64 k∧k≤n∧acc.length≤200∧Hid (allB acc=true)∧Hid (OwnV shSt wr w1.heap.size 132 V acc.length acc)∧Hid (Ext w1 wr)∧Hid (parseGo [] ws=parseGo acc (ws.drop k))) (fun _ i _=>n-(intOf i).toNat)
 case atStart=>exact ⟨_,0,[],rfl,rfl,Zu _,by simp,Za rfl,Za (OwnV.nil _ _ _ _),Za (Zd _),Za rfl⟩
 case round =>
  obtain ⟨V,k,acc,rfl,rfl,hk,hal,HB,HV,HE1,HP⟩:=hrel
  have HE:=Za (HQ1.out.trans HE1.out)
  obtain ⟨A9,c9,rfl,hv9, -⟩:=zac HV.out
  have HV9:=Za hv9
  clear hv9
  by_cases hlt:k<n
  ·have hcell:=zha (Vec.ext HV1.out HE1.out) hlt
   have hz:=Zo wr _ hcell
   have hd:=HP.out.trans (zmp (ws:=ws) (k:=k) (by omega) acc)
   have hxl:=HW.out (ws.getD k []) (by rw [Zc,Zg (by omega)];exact List.getElem_mem _)
   generalize ws.getD k []=x at *
   have HR:=Za (fun (w':World) (hg':Glob w')=>zgZ x (by omega) w' hg')
   obtain ⟨⟨hm1,hm2⟩,hk0,hk1⟩:=zjg x
   generalize readW x=rd at *
   obtain ⟨⟨sk,sp,sa,sb⟩,m⟩:=rd
   simp only at hm1 hm2 hk0 hk1 hd
   obtain ⟨N,rfl⟩:∃N:Nat,m=(N:Int):=⟨m.toNat,by omega⟩
   rw [Int.toNat_natCast] at hd
   have HD:=Za hd
   have q5:(k:Int)<(n:Int):=by omega
   clear hd hxl HP HW
   by_cases hok:okSt ⟨sk,sp,sa,sb⟩=true
   ·have HOK:=Za (show okE ⟨sk,sp,sa,sb⟩=0 by rw [okE,if_pos hok])
    by_cases hm:(acc.length:Int)+(N:Int)≤200
    ·have hm3:¬(200:Int)<(acc.length:Int)+(N:Int):=by omega
     have HF:=Za (HD.out.trans (if_pos (And.intro hok hm)))
     have HOB:=Za (show allB (acc++List.replicate N (⟨sk,sp,sa,sb⟩:St))=true by
      rw [zjY,HB.out,Bool.true_and,allB,Zq]
      intro y hy
      rw [List.eq_of_mem_replicate hy]
      exact hok)
     clear hok HD
     go_wp2_with (first
      | (go_at_call 193;((with_reducible refine (HR.out _ (HG.out.ext HE.out)).mono ?_);rintro e w2 ⟨rfl,hq2⟩;have HQ2:=Za (HE.out.trans hq2);have HQ3:=Za (HE1.out.trans hq2);have HQ4:=Za hq2;clear hq2))
      | (go_at_call 137;((with_reducible refine (zaX sk sp sa sb hk0 hk1 _).mono ?_);rintro e w3 ⟨rfl,hq3⟩;rw [HOK.out];obtain ⟨hf1,hf2,hf3⟩:=hq3.facts;have HQ5:=Za hq3;clear hq3))
      | (go_at_call 194;((refine (zhH ⟨sk,sp,sa,sb⟩ N (by omega) (by omega) _ _ _ _ (Vec.lit2 (by simp) rfl rfl)).mono ?_);rintro e w4 ⟨v4,rfl,hv4,hq4⟩;obtain ⟨A4,c4,rfl,hve4, -⟩:=zac hv4;have HQ6:=Za hq4;have HV4:=Za hve4;clear hq4 hv4 hve4))
      | (at_builtin;(refine zab (S:=shSt) (w:=w1) (m:=N) (xs:=List.replicate N (⟨sk,sp,sa,sb⟩:St)) 73 132 (.agg #[.int .u8 0,.bool false,.int .i64 0,.int .i64 0]) 24 (by rfl) (by rfl) Tryz.underlying73 za7 (by rfl) (by omega) (by rfl) (by rfl) (OwnV.ext (OwnV.ext HV.out HQ4.out) (Zb (by repeat (first | exact Zd _ | refine Zl ?_ _)) (HQ5.out.trans (Zb (by repeat (first | exact Zd _ | refine Zl ?_ _)) HQ6.out)))) (HQ3.out.trans (Zb (by repeat (first | exact Zd _ | refine Zl ?_ _)) (HQ5.out.trans (Zb (by repeat (first | exact Zd _ | refine Zl ?_ _)) HQ6.out)))) HV4.out (by omega) ?_;intro v' w6 hown6 hext6 hgr6)))
     have HN:=Za (show OwnV shSt w6 w1.heap.size 132 v' (acc++List.replicate N (⟨sk,sp,sa,sb⟩:St)).length (acc++List.replicate N (⟨sk,sp,sa,sb⟩:St)) by
      rw [Zh,ZZ]
      exact hown6)
     clear hown6 hgr6
     go_roundw
     case rel=>exact ⟨v',k+1,acc++List.replicate N (⟨sk,sp,sa,sb⟩:St),rfl,by go_num,by omega,by rw [Zh,ZZ];omega,HOB,HN,hext6,HF⟩
     case measure=>simp [intOf];omega
    ·have hm3:(200:Int)<(acc.length:Int)+(N:Int):=by omega
     have HF:=Za (HPB.out (HD.out.trans (if_neg (fun h=>hm h.2))))
     clear hok hm HD
     go_wp2_with (first
      | (go_at_call 193;((with_reducible refine (HR.out _ (HG.out.ext HE.out)).mono ?_);rintro e w2 ⟨rfl,hq2⟩;have HQ2:=Za (HE.out.trans hq2);have HQ3:=Za (HE1.out.trans hq2);have HQ4:=Za hq2;clear hq2))
      | (go_at_call 137;((with_reducible refine (zaX sk sp sa sb hk0 hk1 _).mono ?_);rintro e w3 ⟨rfl,hq3⟩;rw [HOK.out];obtain ⟨hf1,hf2,hf3⟩:=hq3.facts;have HQ5:=Za hq3;clear hq3)))
     go_ret2
     exact zaz HF.out (HQ2.out.trans (Zb (by repeat (first | exact Zd _ | refine Zl ?_ _)) HQ5.out))
   ·have HOK:=Za (show okE ⟨sk,sp,sa,sb⟩=8 by rw [okE,if_neg hok])
    have HF:=Za (HPB.out (HD.out.trans (if_neg (fun h=>hok h.1))))
    clear hok HD
    go_wp2_with (first
     | (go_at_call 193;((with_reducible refine (HR.out _ (HG.out.ext HE.out)).mono ?_);rintro e w2 ⟨rfl,hq2⟩;have HQ2:=Za (HE.out.trans hq2);have HQ3:=Za (HE1.out.trans hq2);have HQ4:=Za hq2;clear hq2))
     | (go_at_call 137;((with_reducible refine (zaX sk sp sa sb hk0 hk1 _).mono ?_);rintro e w3 ⟨rfl,hq3⟩;rw [HOK.out];obtain ⟨hf1,hf2,hf3⟩:=hq3.facts;have HQ5:=Za hq3;clear hq3)))
    go_ret2
    exact zaz HF.out (HQ2.out.trans (Zb (by repeat (first | exact Zd _ | refine Zl ?_ _)) HQ5.out))
  ·obtain rfl:k=n:=by omega
   have hfin:parseGo [] ws=some acc:=by
    have h9:=HP.out
    rw [Z5 (by omega)] at h9
    exact h9
   have HL:=Za (HPE.out acc hfin)
   have HVF:=Za (OwnV.down HV.out HQ1.out.size)
   have HSA:=Za (fun (w':World) (hb:Ext wr w')=>zcp acc.length c9 A9 acc w' (HV9.out.ext hb) (by unfold maxLen;omega) (zbN HB.out))
   have HTX:=Za (fun (w':World) (hb:Ext wr w')=>zer acc.length c9 A9 acc w' (HV9.out.ext hb) hal HB.out (HG.out.ext (HE.out.trans hb)))
   clear hfin HP HPE HPB HW
   by_cases hA:allE acc=0
   ·by_cases hT:textL acc=l
    ·have HF:=Za (HL.out.trans (if_pos (And.intro hA hT)))
     have HAE:=Za hA
     have HTE:=Za hT
     clear hA hT
     go_wp2_with (first
      | (go_at_call 126;((with_reducible refine (HSA.out _ (Zd _)).mono ?_);rintro e w2 ⟨rfl,hq2⟩;rw [HAE.out];have HQ2:=Za hq2;clear hq2))
      | (go_at_call 164;((with_reducible refine (HTX.out _ HQ2.out).mono ?_);rintro e w3 ⟨rfl,hq3⟩;rw [HTE.out];have HQ3:=Za (HQ2.out.trans hq3);clear hq3)))
     go_ret2
     exact zbR HF.out (HVF.out.ext HQ3.out) (HE.out.trans HQ3.out)
    ·have HF:=Za (HL.out.trans (if_neg (fun h=>hT h.2)))
     have HAE:=Za hA
     have hT2:(textL acc==l)=false:=by simpa using hT
     clear hA hT
     generalize textL acc=T at *
     go_wp2_with (first
      | (go_at_call 126;((with_reducible refine (HSA.out _ (Zd _)).mono ?_);rintro e w2 ⟨rfl,hq2⟩;rw [HAE.out];have HQ2:=Za hq2;clear hq2))
      | (go_at_call 164;((with_reducible refine (HTX.out _ HQ2.out).mono ?_);rintro e w3 ⟨rfl,hq3⟩;have HQ3:=Za (HQ2.out.trans hq3);clear hq3)))
     go_ret2
     exact zaz HF.out (HE.out.trans HQ3.out)
   ·have HF:=Za (HL.out.trans (if_neg (fun h=>hA h.1)))
    generalize hae:allE acc=ae at *
    have hb8:(ae != 0)=true:=by simpa using hA
    clear hA
    go_wp2_with (first
     | (go_at_call 126;((with_reducible refine (HSA.out _ (Zd _)).mono ?_);rintro e w2 ⟨rfl,hq2⟩;have HQ2:=Za hq2;clear hq2)))
    go_ret2
    exact zaz HF.out (HE.out.trans HQ2.out)
theorem zi2 (w:World) (hg:Glob w):Calls Tryz.prog 188 #[.string ⟨([]:List UInt8).toArray⟩] w (ParseR [] w):=by
 have HG:=Za hg
 have HS:=Za (zfm [] 32 (by simp) w hg)
 have HR:=Za (fun (w':World) (hg':Glob w')=>zgZ [] (by simp) w' hg')
 have HF:=Za (show parseL []=some [] by decide +kernel)
 have HSA:=Za (fun (w':World)=>zcp 0 0 none [] w' (Vec.none_ _ _ _) (by unfold maxLen;omega) (zbN rfl))
 have HTX:=Za (fun (w':World) (hg':Glob w')=>zer 0 0 none [] w' (Vec.none_ _ _ _) (by omega) rfl hg')
 clear hg
 go_enter Tryz.func188,Tryz.ntmps188
 go_wp2_with (go_at_call 50;((with_reducible refine HS.out.mono ?_);rintro e w1 ⟨g,n,rfl,hq1,hv1⟩;have HQ1:=Za hq1;have HV1:=Za hv1;clear hq1 hv1))
 obtain rfl:n=1:=HV1.out.1.symm
 go_loopw [4,15] (fun u i wr=>u = .slice none 0 0∧i = .int .i64 0∧Hid (Ext w1 wr)) (fun _ i _=>0)
 case atStart=>exact ⟨rfl,rfl,Za (Zd _)⟩
 case round =>
  obtain ⟨rfl,rfl,HE1⟩:=hrel
  have HE:=Za (HQ1.out.trans HE1.out)
  have hcell:=zha (Vec.ext HV1.out HE1.out) (k:=0) (by omega)
  have hz:=Zo wr _ hcell
  rw [show (spl 32 []).getD 0 []=([]:List UInt8) from rfl] at hcell
  go_wp2_with (first
   | (go_at_call 193;((with_reducible refine (HR.out _ (HG.out.ext HE.out)).mono ?_);rintro e w2 ⟨rfl,hq2⟩;have HQ2:=Za (HE.out.trans hq2);clear hq2))
   | (go_at_call 126;((with_reducible refine (HSA.out _).mono ?_);rintro e w3 ⟨rfl,hq3⟩;rw [show allE []=0 from rfl];have HQ3:=Za (HQ2.out.trans (Zb (by repeat (first | exact Zd _ | refine Zl ?_ _)) hq3));clear hq3))
   | (go_at_call 164;((with_reducible refine (HTX.out _ (HG.out.ext HQ3.out)).mono ?_);rintro e w4 ⟨rfl,hq4⟩;rw [show textL []=[] from rfl];have HQ4:=Za (HQ3.out.trans hq4);clear hq4)))
  go_ret2
  exact zbR HF.out (OwnV.nil _ _ _ _) HQ4.out
theorem zi1 (l:List UInt8) (hl:l.length≤1000000000) (w:World) (hg:Glob w):Calls Tryz.prog 188 #[.string ⟨l.toArray⟩] w (ParseR l w):=by
 by_cases h:3000<l.length
 ·exact zhw l h (by omega) w
 ·cases l with
  | nil=>exact zi2 w hg
  | cons c r=>exact zhx _ (by simp) (by omega) w hg
end Go.Proofs.YtkneghkbgingdaaGreatDoor
/- A stitch in a box;strings of one's own. -/
namespace Go.Proofs.YtkneghkbgingdaaGreatDoor
set_option maxRecDepth 100000
open Go.RowKit
theorem zai {w:World} {B m c:Nat} {A:Option Addr} {e:TypeId} {ws:List (List UInt8)} (h:OwnV shStr w B e (.slice A m c) m ws) (hm:0<m):∃b off,A=some ⟨b,off,none⟩∧B≤b∧b<w.heap.size∧∀k,k<m→w.cell? ⟨b,off+k,none⟩=some (.string ⟨(ws.getD k []).toArray⟩):=by
 obtain ⟨A',c',e1,hv,hb⟩:=zac h
 cases e1
 obtain ⟨b,off,e2,hlt,hc⟩:=hv.2 hm
 refine ⟨b,off,e2,hb hm b off e2,hlt,fun k hk=>?_⟩
 have h9:=hc k (ws.getD k []) (by rw [Zc,Zg (by rw [hv.1];exact hk)];rfl) 0 (.string ⟨(ws.getD k []).toArray⟩) rfl
 rw [show off+(k*shStr.size+0)=off+k by show off+(k*1+0)=off+k;omega] at h9
 exact h9
structure Bxs (W:World) (g:Nat) (k:Int) (p:Bool) (a b:Int):Prop where
 c0:W.cell? ⟨g,0,none⟩=some (.int .u8 k)
 c1:W.cell? ⟨g,1,none⟩=some (.bool p)
 c2:W.cell? ⟨g,2,none⟩=some (.int .i64 a)
 c3:W.cell? ⟨g,3,none⟩=some (.int .i64 b)
 f0:W.frozen? ⟨g,0,none⟩=false
 f1:W.frozen? ⟨g,1,none⟩=false
 f2:W.frozen? ⟨g,2,none⟩=false
 f3:W.frozen? ⟨g,3,none⟩=false
 hlt:g<W.heap.size
theorem zaq (w:World) (k:Int) (p:Bool) (a b:Int) (t:TypeId):Bxs (w.alloc (.cells #[.int .u8 k,.bool p,.int .i64 a,.int .i64 b] t)) w.heap.size k p a b :=
 ⟨by simp [go_sem],by simp [go_sem],by simp [go_sem],by simp [go_sem],by simp [go_sem],by simp [go_sem],by simp [go_sem],by simp [go_sem],by simp⟩
theorem zaa {W W':World} {g:Nat} {k:Int} {p:Bool} {a b:Int} (h:Bxs W g k p a b) (hb:Ext W W'):Bxs W' g k p a b:=by
 obtain ⟨hc,hf,hz⟩:=Ext.facts hb
 have hl:=h.hlt
 exact ⟨by rw [hc _ _ hl];exact h.c0,by rw [hc _ _ hl];exact h.c1,by rw [hc _ _ hl];exact h.c2,by rw [hc _ _ hl];exact h.c3,by rw [hf _ _ hl];exact h.f0,by rw [hf _ _ hl];exact h.f1,by rw [hf _ _ hl];exact h.f2,by rw [hf _ _ hl];exact h.f3,Zt hl (Zr hb)⟩
theorem zoI {p:Prop} (h:p:=by
 obtain ⟨c0,c1,c2,c3,f0,f1,f2,f3,hl⟩:=h
 exact ⟨by simp [go_sem,c0],by simp [go_sem,c1],by simp [go_sem,c2],by simp [go_sem,c3],by simp [go_sem,f0],by simp [go_sem,f1],by simp [go_sem,f2],by simp [go_sem,f3],by simp [hl]⟩):p:=h
theorem zb7 {W:World} {g:Nat} {k:Int} {p:Bool} {a b:Int} (h:Bxs W g k p a b) (x:Int):Bxs (W.setCell ⟨g,0,none⟩ (.int .u8 x)) g x p a b:=by
 exact zoI
theorem zfA {W:World} {g:Nat} {k:Int} {p:Bool} {a b:Int} (h:Bxs W g k p a b) (x:Int):Bxs (W.setCell ⟨g,3,none⟩ (.int .i64 x)) g k p a x:=by
 exact zoI
theorem zaJ {l:List UInt8} (h:numS l=none):numN l=0∧(numS l).isSome=false:=by unfold numN;rw [h];exact ⟨rfl,rfl⟩
end Go.Proofs.YtkneghkbgingdaaGreatDoor
