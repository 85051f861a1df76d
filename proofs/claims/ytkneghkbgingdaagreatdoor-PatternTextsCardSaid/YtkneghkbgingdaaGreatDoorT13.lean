/- Parse of stitches. -/
import Derived.Test.YtkneghkbgingdaaGreatDoorT12
namespace Go.Proofs.YtkneghkbgingdaaGreatDoor
set_option maxHeartbeats 16000000
set_option maxRecDepth 100000
open Go.RowKit Go.ChangeShapes Go.WideShapes Go.Joins
theorem zka (c:UInt8):0<=kindL c/\kindL c<=255:=by
 unfold kindL
 repeat' split
 all_goals omega
theorem zfO (p:Bool) (c:UInt8) (r:List UInt8):0<=(readK p c r).k/\(readK p c r).k<=255:=zka c
theorem zkK (l:List UInt8):(1<=(readW l).2/\(readW l).2<=201)/\0<=(readW l).1.k/\(readW l).1.k<=255:=by
 have h0:(0:Int)<=st0.k/\st0.k<=255:=by decide
 unfold readW
 repeat' split
 all_goals (refine ⟨⟨?_,?_⟩,?_,?_⟩ <;> first | (simp;done) | (simp only;omega) | exact h0.1 | exact h0.2 | exact (zfO _ _ _).1 | exact (zfO _ _ _).2)
def parseE (s:List UInt8):Int:=if (parseL s).isSome then 0 else 12
def parseV (s:List UInt8):List St:=(parseL s).getD []
def ParseR (s:List UInt8) (w:World) (e:Ending) (w':World):Prop:=∃v,e = .returned (.tuple #[v,.int .i64 (parseE s)])/\OwnV shSt w' w.heap.size 132 v (parseV s).length (parseV s)/\Ext w w'
theorem zcE {s:List UInt8} (h:parseL s=none):parseE s=12/\parseV s=[]:=by
 unfold parseE parseV
 rw [h]
 exact ⟨rfl,rfl⟩
theorem zbo {s:List UInt8} {l:List St} (h:parseL s=some l):parseE s=0/\parseV s=l:=by
 unfold parseE parseV
 rw [h]
 exact ⟨rfl,rfl⟩
theorem zay {s:List UInt8} {w w':World} (h:parseL s=none) (hb:Ext w w'):ParseR s w (.returned (.tuple #[.slice none 0 0,.int .i64 12])) w':=by
 obtain ⟨h1,h2⟩:=zcE h
 refine ⟨_,by rw [h1],?_,hb⟩
 rw [h2]
 exact OwnV.nil _ _ _ _
theorem zb3 {s:List UInt8} {l:List St} {v:Value} {w w':World} (h:parseL s=some l) (hv:OwnV shSt w' w.heap.size 132 v l.length l) (hb:Ext w w'):ParseR s w (.returned (.tuple #[v,.int .i64 0])) w':=by
 obtain ⟨h1,h2⟩:=zbo h
 refine ⟨v,by rw [h1],?_,hb⟩
 rw [h2]
 exact hv
theorem ziJ {s:List UInt8} {acc:List St} (hs:s.length<=3000) (h0:s≠[]) (h:parseGo [] (spl 32 s)=some acc):parseL s=if allE acc=0/\textL acc=s then some acc else none:=by
 rw [parseL,if_neg (by omega),parseW,if_neg h0,h]
 rfl
theorem ziI {s:List UInt8} (hs:s.length<=3000) (h0:s≠[]) (h:parseGo [] (spl 32 s)=none):parseL s=none:=by
 rw [parseL,if_neg (by omega),parseW,if_neg h0,h]
 rfl
theorem znW {ws:List (List UInt8)} {k:Nat} (hk:k<ws.length) (acc:List St):parseGo acc (ws.drop k)=if okSt (readW (ws.getD k [])).1=true/\(acc.length:Int)+(readW (ws.getD k [])).2<=200 then parseGo (acc++List.replicate (readW (ws.getD k [])).2.toNat (readW (ws.getD k [])).1) (ws.drop (k+1)) else none:=by
 rw [Z5 hk,parseGo,Zc,Zd hk]
 rfl
theorem zic {w:World} {g n:Nat} {ws:List (List UInt8)} (h:Vec shStr w (some ⟨g,0,none⟩) n ws) {k:Nat} (hk:k<n):w.cell? ⟨g,k,none⟩=some (.string ⟨(ws.getD k []).toArray⟩):=by
 have hl:=h.1
 have h1:=h.cells_at k (.string ⟨(ws.getD k []).toArray⟩) (by rw [zhF,List.getElem?_map,Zc,Zd (by omega)];rfl)
 rw [show Addr.add ⟨g,0,none⟩ k=⟨g,k,none⟩ by cases k <;> simp [Addr.add]] at h1
 exact h1
theorem zaF (c:UInt8) (l:List UInt8):(spl c l).length<=l.length+1/\∀x∈spl c l,x.length<=l.length:=by
 induction l with
 | nil=>simp [spl]
 | cons a l ih =>
  obtain ⟨i1,i2⟩:=ih
  unfold spl
  split
  ·refine ⟨by simp;omega,fun x hx=>?_⟩
   rcases ZI.1 hx with rfl | hx
   ·simp
   ·have:=i2 x hx;simp;omega
  ·split
   ·rename_i h t e
    rw [e] at i1 i2
    refine ⟨by simp at i1 ⊢;omega,fun x hx=>?_⟩
    rcases ZI.1 hx with rfl | hx
    ·have:=i2 h (by simp);simp;omega
    ·have:=i2 x (by simp [hx]);simp;omega
   ·exact ⟨by simp,fun x hx=>by simp at hx;subst hx;simp⟩
theorem OwnV.down {α:Type} {S:Shp α} {w:World} {B B':Nat} {e:TypeId} {v:Value} {k:Nat} {L:List α} (h:OwnV S w B e v k L) (hb:B'<=B):OwnV S w B' e v k L :=
 ⟨h.1,h.2.imp id fun ⟨g,cap,cur,h0,hB,r⟩=>⟨g,cap,cur,h0,ZD hb hB,r⟩⟩
theorem zcf {l:List St} (h:allB l=true):Bytes l:=zhj fun s hs=>by
 obtain ⟨hk, -⟩:=zml (Zq.1 h s hs)
 rcases zax hk with e | e | e | e | e | e | e | e | e | e <;> omega
theorem ziL (l:List UInt8) (hl:3000<l.length) (h:(l.length:Int)<=1000000000) (w:World):Calls Tryz.prog 188 #[.string ⟨l.toArray⟩] w (ParseR l w):=by
 have h1:=Za (show parseL l=none by rw [parseL,if_pos hl])
 have h2:(3000:Int)<(l.length:Int):=by omega
 clear hl
 go_enter Tryz.func188,Tryz.ntmps188
 go_wp2_with fail
 go_ret2
 exact zay h1.out zx
theorem ziM (l:List UInt8) (h0:l≠[]) (hl:l.length<=3000) (w:World) (hg:Glob w):Calls Tryz.prog 188 #[.string ⟨l.toArray⟩] w (ParseR l w):=by
 have HG:=Za hg
 have HS:=Za (zf8 l 32 (by omega) w hg)
 have aQ:=zaF 32 l
 have aw:=Za (fun (acc:List St) (h:parseGo [] (spl 32 l)=some acc)=>ziJ hl h0 h)
 have aq:=Za (fun (h:parseGo [] (spl 32 l)=none)=>ziI hl h0 h)
 generalize spl 32 l=ws at *
 obtain ⟨hw1,aH⟩:=aQ
 have HW:=Za aH
 have hlen:¬(3000:Int)<(l.length:Int):=by omega
 have hE:(l==[])=false:=by simpa using h0
 clear hg aH h0
 go_enter Tryz.func188,Tryz.ntmps188
 go_wp2_with (go_at_call 50;((with_reducible refine HS.out.mono ?_);rintro e w1 ⟨g,n,rfl,hq1,hv1⟩;have ax:=Za hq1;have HV1:=Za hv1;clear hq1 hv1))
 have hn:ws.length=n:=HV1.out.1
 have hn2:n<=3001:=by omega
 go_loopw [4,15] (fun u i wr=>∃(V:Value) (k:Nat) (acc:List St),V=u/\i = .int .i64 k/\k<=n/\acc.length<=200/\Hid (allB acc=true)/\Hid (OwnV shSt wr w1.heap.size 132 V acc.length acc)/\Hid (Ext w1 wr)/\Hid (parseGo [] ws=parseGo acc (ws.drop k))) (fun _ i _=>n-(intOf i).toNat)
 case atStart=>exact ⟨_,0,[],rfl,rfl,Zy _,by simp,Za rfl,Za (OwnV.nil _ _ _ _),Za (Zf _),Za rfl⟩
 case round =>
  obtain ⟨V,k,acc,rfl,rfl,hk,aM,HB,HV,ah,HP⟩:=hrel
  have HE:=Za (ax.out.trans ah.out)
  obtain ⟨A9,c9,rfl,aG, -⟩:=zaf HV.out
  have aA:=Za aG
  clear aG
  by_cases hlt:k<n
  ·have ai:=zic (Vec.ext HV1.out ah.out) hlt
   have hz:=Zn wr _ ai
   have hd:=HP.out.trans (znW (ws:=ws) (k:=k) (by omega) acc)
   have aR:=HW.out (ws.getD k []) (by rw [Zc,Zd (by omega)];exact List.getElem_mem _)
   generalize ws.getD k []=x at *
   have HR:=Za (fun (w':World) (hg':Glob w')=>zh5 x (by omega) w' hg')
   obtain ⟨⟨aN,aO⟩,an,ao⟩:=zkK x
   generalize readW x=rd at *
   obtain ⟨⟨sk,sp,sa,sb⟩,m⟩:=rd
   simp only at aN aO an ao hd
   obtain ⟨N,rfl⟩:∃N:Nat,m=(N:Int):=⟨m.toNat,by omega⟩
   rw [Int.toNat_natCast] at hd
   have HD:=Za hd
   have q5:(k:Int)<(n:Int):=by omega
   clear hd aR HP HW
   by_cases ad:okSt ⟨sk,sp,sa,sb⟩=true
   ·have am:=Za (show okE ⟨sk,sp,sa,sb⟩=0 by rw [okE,if_pos ad])
    by_cases hm:(acc.length:Int)+(N:Int)<=200
    ·have aP:¬(200:Int)<(acc.length:Int)+(N:Int):=by omega
     have HF:=Za (HD.out.trans (if_pos (And.intro ad hm)))
     have aI:=Za (show allB (acc++List.replicate N (⟨sk,sp,sa,sb⟩:St))=true by
      rw [zlz,HB.out,Bool.true_and,allB,Zq]
      intro y hy
      rw [List.eq_of_mem_replicate hy]
      exact ad)
     clear ad HD
     go_wp2_with (first
      | (go_at_call 193;((with_reducible refine (HR.out _ (HG.out.ext HE.out)).mono ?_);rintro e w2 ⟨rfl,hq2⟩;have ab:=Za (HE.out.trans hq2);have ac:=Za (ah.out.trans hq2);have ar:=Za hq2;clear hq2))
      | (go_at_call 137;((with_reducible refine (za0 sk sp sa sb an ao _).mono ?_);rintro e w3 ⟨rfl,aa⟩;rw [am.out];obtain ⟨aB,aC,aD⟩:=aa.facts;have ag:=Za aa;clear aa))
      | (go_at_call 194;((refine (ziV ⟨sk,sp,sa,sb⟩ N (by omega) (by omega) _ _ _ _ (Vec.lit2 (by simp) rfl rfl)).mono ?_);rintro e w4 ⟨v4,rfl,aF,aE⟩;obtain ⟨A4,c4,rfl,al, -⟩:=zaf aF;have ay:=Za aE;have aK:=Za al;clear aE aF al))
      | (at_builtin;(refine zab (S:=shSt) (w:=w1) (m:=N) (xs:=List.replicate N (⟨sk,sp,sa,sb⟩:St)) 73 132 (.agg #[.int .u8 0,.bool false,.int .i64 0,.int .i64 0]) 24 (by rfl) (by rfl) Tryz.underlying73 za2 (by rfl) (by omega) (by rfl) (by rfl) (OwnV.ext (OwnV.ext HV.out ar.out) (Zi (by repeat (first | exact Zf _ | refine Zp ?_ _)) (ag.out.trans (Zi (by repeat (first | exact Zf _ | refine Zp ?_ _)) ay.out)))) (ac.out.trans (Zi (by repeat (first | exact Zf _ | refine Zp ?_ _)) (ag.out.trans (Zi (by repeat (first | exact Zf _ | refine Zp ?_ _)) ay.out)))) aK.out (by omega) ?_;intro v' w6 af aj av)))
     have HN:=Za (show OwnV shSt w6 w1.heap.size 132 v' (acc++List.replicate N (⟨sk,sp,sa,sb⟩:St)).length (acc++List.replicate N (⟨sk,sp,sa,sb⟩:St)) by
      rw [Zb,ZZ]
      exact af)
     clear af av
     go_roundw
     case rel=>exact ⟨v',k+1,acc++List.replicate N (⟨sk,sp,sa,sb⟩:St),rfl,by go_num,by omega,by rw [Zb,ZZ];omega,aI,HN,aj,HF⟩
     case measure=>simp [intOf];omega
    ·have aP:(200:Int)<(acc.length:Int)+(N:Int):=by omega
     have HF:=Za (aq.out (HD.out.trans (if_neg (fun h=>hm h.2))))
     clear ad hm HD
     go_wp2_with (first
      | (go_at_call 193;((with_reducible refine (HR.out _ (HG.out.ext HE.out)).mono ?_);rintro e w2 ⟨rfl,hq2⟩;have ab:=Za (HE.out.trans hq2);have ac:=Za (ah.out.trans hq2);have ar:=Za hq2;clear hq2))
      | (go_at_call 137;((with_reducible refine (za0 sk sp sa sb an ao _).mono ?_);rintro e w3 ⟨rfl,aa⟩;rw [am.out];obtain ⟨aB,aC,aD⟩:=aa.facts;have ag:=Za aa;clear aa)))
     go_ret2
     exact zay HF.out (ab.out.trans (Zi (by repeat (first | exact Zf _ | refine Zp ?_ _)) ag.out))
   ·have am:=Za (show okE ⟨sk,sp,sa,sb⟩=8 by rw [okE,if_neg ad])
    have HF:=Za (aq.out (HD.out.trans (if_neg (fun h=>ad h.1))))
    clear ad HD
    go_wp2_with (first
     | (go_at_call 193;((with_reducible refine (HR.out _ (HG.out.ext HE.out)).mono ?_);rintro e w2 ⟨rfl,hq2⟩;have ab:=Za (HE.out.trans hq2);have ac:=Za (ah.out.trans hq2);have ar:=Za hq2;clear hq2))
     | (go_at_call 137;((with_reducible refine (za0 sk sp sa sb an ao _).mono ?_);rintro e w3 ⟨rfl,aa⟩;rw [am.out];obtain ⟨aB,aC,aD⟩:=aa.facts;have ag:=Za aa;clear aa)))
    go_ret2
    exact zay HF.out (ab.out.trans (Zi (by repeat (first | exact Zf _ | refine Zp ?_ _)) ag.out))
  ·obtain rfl:k=n:=by omega
   have ak:parseGo [] ws=some acc:=by
    have h9:=HP.out
    rw [Z3 (by omega)] at h9
    exact h9
   have HL:=Za (aw.out acc ak)
   have aL:=Za (OwnV.down HV.out ax.out.size)
   have au:=Za (fun (w':World) (hb:Ext wr w')=>zcr acc.length c9 A9 acc w' (aA.out.ext hb) (by unfold maxLen;omega) (zcf HB.out))
   have az:=Za (fun (w':World) (hb:Ext wr w')=>ze1 acc.length c9 A9 acc w' (aA.out.ext hb) aM HB.out (HG.out.ext (HE.out.trans hb)))
   clear ak HP aw aq HW
   by_cases hA:allE acc=0
   ·by_cases hT:textL acc=l
    ·have HF:=Za (HL.out.trans (if_pos (And.intro hA hT)))
     have ap:=Za hA
     have aJ:=Za hT
     clear hA hT
     go_wp2_with (first
      | (go_at_call 126;((with_reducible refine (au.out _ (Zf _)).mono ?_);rintro e w2 ⟨rfl,hq2⟩;rw [ap.out];have ab:=Za hq2;clear hq2))
      | (go_at_call 164;((with_reducible refine (az.out _ ab.out).mono ?_);rintro e w3 ⟨rfl,aa⟩;rw [aJ.out];have ac:=Za (ab.out.trans aa);clear aa)))
     go_ret2
     exact zb3 HF.out (aL.out.ext ac.out) (HE.out.trans ac.out)
    ·have HF:=Za (HL.out.trans (if_neg (fun h=>hT h.2)))
     have ap:=Za hA
     have hT2:(textL acc==l)=false:=by simpa using hT
     clear hA hT
     generalize textL acc=T at *
     go_wp2_with (first
      | (go_at_call 126;((with_reducible refine (au.out _ (Zf _)).mono ?_);rintro e w2 ⟨rfl,hq2⟩;rw [ap.out];have ab:=Za hq2;clear hq2))
      | (go_at_call 164;((with_reducible refine (az.out _ ab.out).mono ?_);rintro e w3 ⟨rfl,aa⟩;have ac:=Za (ab.out.trans aa);clear aa)))
     go_ret2
     exact zay HF.out (HE.out.trans ac.out)
   ·have HF:=Za (HL.out.trans (if_neg (fun h=>hA h.1)))
    generalize hae:allE acc=ae at *
    have hb8:(ae != 0)=true:=by simpa using hA
    clear hA
    go_wp2_with (first
     | (go_at_call 126;((with_reducible refine (au.out _ (Zf _)).mono ?_);rintro e w2 ⟨rfl,hq2⟩;have ab:=Za hq2;clear hq2)))
    go_ret2
    exact zay HF.out (HE.out.trans ab.out)
theorem zkr (w:World) (hg:Glob w):Calls Tryz.prog 188 #[.string ⟨([]:List UInt8).toArray⟩] w (ParseR [] w):=by
 have HG:=Za hg
 have HS:=Za (zf8 [] 32 (by simp) w hg)
 have HR:=Za (fun (w':World) (hg':Glob w')=>zh5 [] (by simp) w' hg')
 have HF:=Za (show parseL []=some [] by decide +kernel)
 have ai:=Za (fun (w':World)=>zcr 0 0 none [] w' (Vec.none_ _ _ _) (by unfold maxLen;omega) (zcf rfl))
 have aj:=Za (fun (w':World) (hg':Glob w')=>ze1 0 0 none [] w' (Vec.none_ _ _ _) (by omega) rfl hg')
 clear hg
 go_enter Tryz.func188,Tryz.ntmps188
 go_wp2_with (go_at_call 50;((with_reducible refine HS.out.mono ?_);rintro e w1 ⟨g,n,rfl,hq1,hv1⟩;have af:=Za hq1;have HV1:=Za hv1;clear hq1 hv1))
 obtain rfl:n=1:=HV1.out.1.symm
 go_loopw [4,15] (fun u i wr=>u = .slice none 0 0/\i = .int .i64 0/\Hid (Ext w1 wr)) (fun _ i _=>0)
 case atStart=>exact ⟨rfl,rfl,Za (Zf _)⟩
 case round =>
  obtain ⟨rfl,rfl,ab⟩:=hrel
  have HE:=Za (af.out.trans ab.out)
  have aa:=zic (Vec.ext HV1.out ab.out) (k:=0) (by omega)
  have hz:=Zn wr _ aa
  rw [show (spl 32 []).getD 0 []=([]:List UInt8) from rfl] at aa
  go_wp2_with (first
   | (go_at_call 193;((with_reducible refine (HR.out _ (HG.out.ext HE.out)).mono ?_);rintro e w2 ⟨rfl,hq2⟩;have ag:=Za (HE.out.trans hq2);clear hq2))
   | (go_at_call 126;((with_reducible refine (ai.out _).mono ?_);rintro e w3 ⟨rfl,ad⟩;rw [show allE []=0 from rfl];have ac:=Za (ag.out.trans (Zi (by repeat (first | exact Zf _ | refine Zp ?_ _)) ad));clear ad))
   | (go_at_call 164;((with_reducible refine (aj.out _ (HG.out.ext ac.out)).mono ?_);rintro e w4 ⟨rfl,ae⟩;rw [show textL []=[] from rfl];have ah:=Za (ac.out.trans ae);clear ae)))
  go_ret2
  exact zb3 HF.out (OwnV.nil _ _ _ _) ah.out
theorem zkq (l:List UInt8) (hl:l.length<=1000000000) (w:World) (hg:Glob w):Calls Tryz.prog 188 #[.string ⟨l.toArray⟩] w (ParseR l w):=by
 by_cases h:3000<l.length
 ·exact ziL l h (by omega) w
 ·cases l with
  | nil=>exact zkr w hg
  | cons c r=>exact ziM _ (by simp) (by omega) w hg
end Go.Proofs.YtkneghkbgingdaaGreatDoor
