/- words: a phrase. -/
import Derived.Test.YtbjgpbojjhldaaaGreatDoorY19
set_option maxHeartbeats 16000000
namespace Go.Proofs.YtbjgpbojjhldaaaGreatDoor
set_option maxRecDepth 100000
open Go.RowKit
theorem zb0 (s:St) (n:Nat) (h:okSt s=true) (h2:n<=200) (w:World) (hg:Glob w) :
  Calls Tryz.prog 86 #[.agg #[.int .u8 s.k,.bool s.p,.int .i64 s.a,.int .i64 s.b],.int .i64 n] w fun e w'=>e = .returned (.string ⟨(phW s n).toArray⟩)/\Ext w w':=by
 have hb:=zky h
 have HG:=Za hg
 have HF:=Za (fun w=>zfZ s.k s.p (zaK h) w)
 have HL:=Za (zgq s.p (zaK h))
 have ah:=Za (fun (w':World) (hg':Glob w')=>zaf (n:Int) (by omega) (by omega) w' hg')
 have dn:=zaj n
 cases hc:cntB s.k
 ·have HO:=Za (zoF (n:=n) h hc)
  have al:=Za (fun (w':World) (hg':Glob w')=>zaf s.a (by omega) (by omega) w' hg')
  have am:=Za (fun (w':World) (hg':Glob w')=>zaf s.b (by omega) (by omega) w' hg')
  have ao:=Za (fun (w':World) (hg':Glob w')=>zeP (frmB s.k s.p) (decD s.a.toNat) (by have:=HL.out;omega) (by have:=zaj s.a.toNat;omega) w' hg')
  have l1:=zci (decD s.a.toNat) (frmB s.k s.p)
  have aj:=Za (fun (w':World) (hg':Glob w')=>zeP (rep1 (decD s.a.toNat) (frmB s.k s.p)) (decD s.b.toNat) (by have:=HL.out;have:=zaj s.a.toNat;omega) (by have:=zaj s.b.toNat;omega) w' hg')
  have l2:=zci (decD s.b.toNat) (rep1 (decD s.a.toNat) (frmB s.k s.p))
  have l3:=zaj s.a.toNat
  have l4:=zaj s.b.toNat
  have l5:=HL.out
  have hl6:(filW s).length<=80:=by unfold filW;omega
  have ax:=Za (show rep1 (decD s.b.toNat) (rep1 (decD s.a.toNat) (frmB s.k s.p))=filW s from rfl)
  rw [ax.out] at aj
  clear l1 l2 l3 l4 l5 HL hg h hb
  rw [Int.toNat_natCast] at ah
  obtain ⟨k,p,a,b⟩:=s
  simp only at *
  generalize frmB k p=F at *
  generalize rep1 (decD a.toNat) F=F1 at *
  generalize filW ⟨k,p,a,b⟩=F2 at *
  generalize decD a.toNat=DA at *
  generalize decD b.toNat=DB at *
  generalize decD n=D at *
  by_cases h1:1<n
  ·rw [if_pos h1] at HO
   have q1:(1:Int)<(n:Int):=by omega
   go_enter Tryz.func86,Tryz.ntmps86
   go_wp2_with (first
    | (go_at_call 128;((with_reducible refine (HF.out _).mono ?_);rintro e w1 ⟨rfl,ab⟩;rw [hc];have ad:=Za ab;obtain ⟨hc1,hf1,hz1⟩:=ab.facts))
    | (go_at_call 36;(first
      | ((with_reducible refine (al.out _ (HG.out.ext zx)).mono ?_);rintro e w2 ⟨rfl,af⟩;have aa:=Za (ad.out.trans (Zm zx af));obtain ⟨ap,ar,av⟩:=aa.out.facts)
      | ((with_reducible refine (am.out _ (HG.out.ext zx)).mono ?_);rintro e w4 ⟨rfl,ak⟩;have ae:=Za (ac.out.trans (Zm zx ak));obtain ⟨az,aB,aC⟩:=ae.out.facts)
      | ((with_reducible refine (ah.out _ (HG.out.ext zx)).mono ?_);rintro e w6 ⟨rfl,hq6⟩;have ay:=Za (ai.out.trans (Zm zx hq6));obtain ⟨hc6,hf6,hz6⟩:=ay.out.facts)))
    | (go_at_call 129;(first
      | ((with_reducible refine (ao.out _ (HG.out.ext zx)).mono ?_);rintro e w3 ⟨rfl,ag⟩;have ac:=Za (aa.out.trans (Zm zx ag));obtain ⟨aq,au,aw⟩:=ac.out.facts)
      | ((with_reducible refine (aj.out _ (HG.out.ext zx)).mono ?_);rintro e w5 ⟨rfl,hq5⟩;have ai:=Za (ae.out.trans (Zm zx hq5));obtain ⟨aA,hf5,aD⟩:=ai.out.facts))))
   go_ret
   exact ⟨by rw [<-HO.out];simp [zeT,timesB],zx⟩
  ·rw [if_neg h1,ZF] at HO
   have q1:¬(1:Int)<(n:Int):=by omega
   go_enter Tryz.func86,Tryz.ntmps86
   go_wp2_with (first
    | (go_at_call 128;((with_reducible refine (HF.out _).mono ?_);rintro e w1 ⟨rfl,ab⟩;rw [hc];have ad:=Za ab;obtain ⟨hc1,hf1,hz1⟩:=ab.facts))
    | (go_at_call 36;(first
      | ((with_reducible refine (al.out _ (HG.out.ext zx)).mono ?_);rintro e w2 ⟨rfl,af⟩;have aa:=Za (ad.out.trans (Zm zx af));obtain ⟨ap,ar,av⟩:=aa.out.facts)
      | ((with_reducible refine (am.out _ (HG.out.ext zx)).mono ?_);rintro e w4 ⟨rfl,ak⟩;have ae:=Za (ac.out.trans (Zm zx ak));obtain ⟨az,aB,aC⟩:=ae.out.facts)))
    | (go_at_call 129;(first
      | ((with_reducible refine (ao.out _ (HG.out.ext zx)).mono ?_);rintro e w3 ⟨rfl,ag⟩;have ac:=Za (aa.out.trans (Zm zx ag));obtain ⟨aq,au,aw⟩:=ac.out.facts)
      | ((with_reducible refine (aj.out _ (HG.out.ext zx)).mono ?_);rintro e w5 ⟨rfl,hq5⟩;have ai:=Za (ae.out.trans (Zm zx hq5));obtain ⟨aA,hf5,aD⟩:=ai.out.facts))))
   go_ret
   exact ⟨by rw [<-HO.out];rfl,zx⟩
 ·have HO:=Za (zoE (n:=n) h hc)
  have HR:=Za (fun (w':World) (hg':Glob w')=>zeP (frmB s.k s.p) (decD n) (by have:=HL.out;omega) (by omega) w' hg')
  rw [HO.out] at HR
  clear HL hg h hb
  rw [Int.toNat_natCast] at ah
  obtain ⟨k,p,a,b⟩:=s
  simp only at *
  generalize frmB k p=F at *
  generalize decD n=D at *
  go_enter Tryz.func86,Tryz.ntmps86
  go_wp2_with (first
   | (go_at_call 128;((with_reducible refine (HF.out _).mono ?_);rintro e w1 ⟨rfl,ab⟩;rw [hc];have ad:=Za ab;obtain ⟨hc1,hf1,hz1⟩:=ab.facts))
   | (go_at_call 36;((with_reducible refine (ah.out _ (HG.out.ext zx)).mono ?_);rintro e w2 ⟨rfl,af⟩;have aa:=Za (ad.out.trans (Zm zx af));obtain ⟨ap,ar,av⟩:=aa.out.facts))
   | (go_at_call 129;((with_reducible refine (HR.out _ (HG.out.ext zx)).mono ?_);rintro e w3 ⟨rfl,ag⟩;have ac:=Za (aa.out.trans (Zm zx ag));obtain ⟨aq,au,aw⟩:=ac.out.facts)))
  go_ret
  exact ⟨rfl,zx⟩
end Go.Proofs.YtbjgpbojjhldaaaGreatDoor
/- words: write and Cells. -/
namespace Go.Proofs.YtbjgpbojjhldaaaGreatDoor
set_option maxRecDepth 100000
open Go.RowKit
theorem zmA:∀(q:Nat) (l:List St) (s:St),1<=q->q<=l.length->(∀t,t<q->l.getD t st0=s)->(q=l.length∨l.getD q st0≠s)->grpA l=(s,q)::grpA (l.drop q):=by
 intro q
 induction q with
 | zero=>intro l s h;omega
 | succ q ih =>
  intro l s _ hl hs aa
  cases l with
  | nil=>simp at hl
  | cons x t =>
   have hx:x=s:=by have:=hs 0 (by omega);simpa using this
   subst hx
   rcases Nat.eq_zero_or_pos q with h0 | h0
   ·subst h0
    rcases zca x t with ⟨m,g,h1,h3⟩ | ⟨h1,h2⟩
    ·exfalso
     cases t with
     | nil=>simp [grpA] at h1
     | cons y t =>
      have hy:y=x:=by
       rcases zca y t with ⟨m',g',_,e3⟩ | ⟨e1,_⟩
       ·rw [e3] at h1;injection h1 with e4 _;injection e4
       ·rw [e1] at h1;injection h1 with e4 _;injection e4
      rcases aa with h | h
      ·simp at h
      ·apply h;simp [hy]
    ·rw [h1];rfl
   ·have h4:=ih t x h0 (by simpa using hl) (fun j hj=>by have:=hs (j+1) (by omega);simpa using this) (by
     rcases aa with h | h
     ·left;simpa using h
     ·right;simpa using h)
    rw [grpA,h4]
    simp
theorem zrp {s:St} {n:Nat} (h:okSt s=true):(phW s n).length<=120:=by
 have h1:=zgq s.p (zaK h)
 have h2:=zaj n
 cases hc:cntB s.k
 ·rw [<-zoF (n:=n) h hc]
  have h3:=zci (decD s.a.toNat) (frmB s.k s.p)
  have h4:=zci (decD s.b.toNat) (rep1 (decD s.a.toNat) (frmB s.k s.p))
  have h5:=zaj s.a.toNat
  have h6:=zaj s.b.toNat
  rw [Zc,filW]
  split
  ·simp [timesB];omega
  ·simp;omega
 ·rw [<-zoE (n:=n) h hc]
  have h3:=zci (decD n) (frmB s.k s.p)
  omega
theorem zka:∀(ws:List (List UInt8)) (m:Nat),(∀x∈ws,x.length<=m)->(joinC ws).length<=(m+2)*ws.length:=by
 intro ws
 induction ws with
 | nil=>intro m _;simp [joinC]
 | cons x ws ih =>
  intro m h
  cases ws with
  | nil=>have:=h x (by simp);simp [joinC];omega
  | cons y ws =>
   have h1:=h x (by simp)
   have h2:=ih m (fun z hz=>h z (by simp at hz ⊢;exact .inr hz))
   rw [joinC]
   simp only [Zc,Zk] at h2 ⊢
   rw [Nat.mul_add (m+2) (ws.length+1) 1,Nat.mul_one]
   omega
theorem zmz (l:List St):(grpA l).length<=l.length:=by
 have hs:=zeE l
 have key:∀g:List (St×Nat),(∀x∈g,1<=x.2)->g.length<=(g.map (·.2)).sum:=by
  intro g
  induction g with
  | nil=>intro _;simp
  | cons x g ih =>
   intro h
   have:=ih (fun y hy=>h y (by simp [hy]))
   have:=h x (by simp)
   simp;omega
 have:=key (grpA l) (fun x hx=>(zcX hx).2)
 omega
theorem zi6 {l:List St} (h:allB l=true) (hn:l.length<=200):(joinC ((grpA l).map (fun x=>phW x.1 x.2))).length<=30000:=by
 have h1:=zka ((grpA l).map (fun x=>phW x.1 x.2)) 120 (fun x hx=>by
  obtain ⟨y,hy,rfl⟩:=List.mem_map.1 hx
  exact zrp (Zu.1 h _ (zcX hy).1))
 have h2:=zmz l
 rw [List.length_map] at h1
 omega
theorem zer (n c:Nat) (A:Option Addr) (l:List St) (w:World) (hl:Vec shSt w A n l) (hn:n<=200) (ho:allB l=true) (hg:Glob w) :
  Calls Tryz.prog 51 #[.slice A n c] w fun e w'=>e = .returned (.string ⟨(wordsL l).toArray⟩)/\Ext w w':=by
 by_cases hn0:n=0
 ·subst hn0
  have aq:l=[]:=Zz hl.1
  subst aq
  go_enter Tryz.func51,Tryz.ntmps51
  go_wp2
  go_ret
  exact ⟨rfl,zx⟩
 have HX:=Za hl
 have HO:=Za ho
 have HG:=Za hg
 have HL:=Za hl.1
 have HW:=Za (zi6 ho (by rw [hl.1];exact hn))
 have ap:=Za (show wordsL l=joinC ((grpA l).map (fun x=>phW x.1 x.2)) by rw [wordsL,if_neg];intro e;rw [e] at hl;exact hn0 hl.1.symm)
 have q9:((n:Int)==0)=false:=by simpa using hn0
 clear hl ho hg
 go_enter Tryz.func51,Tryz.ntmps51
 go_wp2_with fail
 go_loopw [3,4] (fun u i wr=>∃(V:Value) (k j:Nat) (ws:List (List UInt8)),V=u/\i = .int .i64 k/\k<=n/\j<=k/\Hid (OwnV shStr wr w.heap.size 9 V j ws)/\Hid (Ext w wr)/\Hid (ws++(grpA (l.drop k)).map (fun x=>phW x.1 x.2)=(grpA l).map (fun x=>phW x.1 x.2))) (fun _ i _=>n-(intOf i).toNat)
 case atStart=>exact ⟨_,0,0,[],rfl,rfl,ZK _,Zb _,Za (OwnV.nil _ _ _ _),Za zx,Za (by simp)⟩
 case round =>
  obtain ⟨V,k,j,ws,rfl,rfl,hk,hj,HV,HE,HT⟩:=hrel
  obtain ⟨wa,rfl⟩:∃wa:World,wa=wr:=⟨_,rfl⟩
  by_cases hlt:k<n
  ·obtain ⟨b,off,rfl,hb1,hc⟩:=Sts.all (Vec.ext HX.out HE.out) (by omega)
   have HC:=Za hc
   obtain ⟨c1,c2,c3,c4⟩:=hc k hlt
   have hok:=zda HO.out (k:=k) (by rw [HL.out];omega)
   obtain ⟨s,hs⟩:∃s,l.getD k st0=s:=⟨_,rfl⟩
   rw [hs] at c1 c2 c3 c4 hok
   have HS:=Za hs
   clear hs hc
   have ao:=Za hok
   obtain ⟨sk,sp,sa,sb⟩:=s
   simp only at c1 c2 c3 c4
   have q0:(0:Int)<=(k:Int):=by omega
   have q1:(k:Int)<(n:Int):=by omega
   have hn9:(n:Int)<=200:=by omega
   clear hok
   go_wp2_with fail
   go_loopw [5] (fun q wi=>∃(m:Nat),q = .int .i64 ((k+m:Nat):Int)/\1<=m/\k+m<=n/\Hid (∀t,t<m->l.getD (k+t) st0=⟨sk,sp,sa,sb⟩)/\Hid (Ext wa wi)) (fun q _=>n-(intOf q).toNat)
   case atStart=>exact ⟨1,by go_num,Zb _,by omega,Za (fun t ht=>(by obtain rfl:t=0:=(by omega);exact HS.out)),Za zx⟩
   case round =>
    obtain ⟨m,rfl,ar,au,HA,ab⟩:=hrel
    obtain ⟨q,hq⟩:∃q,k+m=q:=⟨_,rfl⟩
    rw [hq] at au ⊢
    have HQ:=Za hq
    have ag:=Za (HE.out.trans ab.out)
    have d1:=(Zl (p:=⟨b,off+k*4,none⟩) ab.out hb1).trans c1
    have d2:=(Zl (p:=⟨b,off+k*4+1,none⟩) ab.out hb1).trans c2
    have d3:=(Zl (p:=⟨b,off+k*4+2,none⟩) ab.out hb1).trans c3
    have d4:=(Zl (p:=⟨b,off+k*4+3,none⟩) ab.out hb1).trans c4
    have q2:(0:Int)<=(q:Int):=by omega
    have af:(q=n∨l.getD q st0≠⟨sk,sp,sa,sb⟩)->grpA (l.drop k)=(⟨sk,sp,sa,sb⟩,m)::grpA (l.drop q):=fun h=>by
     have h9:=zmA m (l.drop k) ⟨sk,sp,sa,sb⟩ ar (by rw [ZA,HL.out];omega) (fun t ht=>by rw [<-HA.out t ht];simp [List.getD_eq_getElem?_getD]) (by
      rcases h with h | h
      ·left;rw [ZA,HL.out];omega
      ·right
       rw [<-HQ.out] at h
       intro e
       apply h
       rw [<-e]
       simp [List.getD_eq_getElem?_getD])
     rw [h9,List.drop_drop,HQ.out]
    have ae:=Za af
    have i1:=Zj ((q:Int)-(k:Int)) (by omega)
    have i2:(q:Int)-(k:Int)=(m:Int):=by omega
    have ah:=Za (fun W hg'=>zb0 ⟨sk,sp,sa,sb⟩ m ao.out (by omega) W hg')
    simp only at ah
    obtain ⟨T,hT⟩:∃T,phW ⟨sk,sp,sa,sb⟩ m=T:=⟨_,rfl⟩
    rw [hT] at ah
    have ak:=Za hT
    clear hq af hT
    by_cases hkm:q<n
    ·obtain ⟨e1,e2,e3,e4⟩:=HC.out q hkm
     replace e1:=(Zl (p:=⟨b,_,none⟩) ab.out hb1).trans e1
     replace e2:=(Zl (p:=⟨b,_,none⟩) ab.out hb1).trans e2
     replace e3:=(Zl (p:=⟨b,_,none⟩) ab.out hb1).trans e3
     replace e4:=(Zl (p:=⟨b,_,none⟩) ab.out hb1).trans e4
     have q3:(q:Int)<(n:Int):=by omega
     by_cases hxy:l.getD q st0=⟨sk,sp,sa,sb⟩
     ·rw [hxy] at e1 e2 e3 e4
      simp only at e1 e2 e3 e4
      have am:=Za (show ∀t,t<m+1->l.getD (k+t) st0=⟨sk,sp,sa,sb⟩ from fun t ht=>by
       by_cases e:t=m
       ·subst e;rw [HQ.out];exact hxy
       ·exact HA.out t (by omega))
      clear hxy
      go_wp2_with fail
      go_quiet (fail)
      go_wp2
      go_roundw
      case rel=>exact ⟨m+1,by have:=HQ.out;go_num,by omega,by have:=HQ.out;omega,am,Za (by have:=ab.out;repeat (first|exact zr _|assumption|refine za ?_ _|refine zd ?_|refine zn ?_ _|refine zt ?_ (by assumption)))⟩
      case measure=>simp [intOf];omega
     ·have aj:=Za (ae.out (.inr hxy))
      generalize hy:l.getD q st0=y at *
      obtain ⟨y1,y2,y3,y4⟩:=y
      simp only at e1 e2 e3 e4
      have hne:=zfE hxy
      clear hxy hy
      go_wp2_with fail
      go_quiet (fail)
      go_wp2_with (first
       | (go_at_call 86;(((with_reducible refine (ah.out _ (HG.out.ext (ag.out.trans zx))).mono ?_);rintro e w5 ⟨rfl,hq5⟩;have ai:=Za (ag.out.trans (Zm zx hq5));have HX5:=Za (ab.out.trans (Zm zx hq5));clear hq5)))
       | (at_builtin;(refine zaa (S:=shStr) (w:=w) (m:=1) (xs:=[T]) 31 9 (.string ⟨#[]⟩) 16 (by rfl) (by rfl) Tryz.underlying31 za9 (by rfl) (by omega) (by rfl) (by rfl) (OwnV.ext HV.out (HX5.out.trans zx)) (ai.out.trans zx) (Vec.lit2 (by simp) rfl rfl) (by omega) ?_;intro v' w6 aa ac ad)))
      have HN:=Za aa
      have HF:=Za (show (ws++[T])++(grpA (l.drop q)).map (fun x=>phW x.1 x.2)=(grpA l).map (fun x=>phW x.1 x.2) by
       rw [<-HT.out,aj.out,<-ak.out]
       simp)
      clear aa ad
      go_roundw
      case rel=>exact ⟨v',q,j+1,ws++[T],rfl,by go_num,by omega,by have:=HQ.out;omega,HN,ac,HF⟩
      case measure=>have:=HQ.out;simp [intOf];omega
    ·have aj:=Za (ae.out (.inl (by omega)))
     have q3:¬(q:Int)<(n:Int):=by omega
     go_wp2_with fail
     go_quiet (fail)
     go_wp2_with (first
      | (go_at_call 86;(((with_reducible refine (ah.out _ (HG.out.ext (ag.out.trans zx))).mono ?_);rintro e w5 ⟨rfl,hq5⟩;have ai:=Za (ag.out.trans (Zm zx hq5));have HX5:=Za (ab.out.trans (Zm zx hq5));clear hq5)))
      | (at_builtin;(refine zaa (S:=shStr) (w:=w) (m:=1) (xs:=[T]) 31 9 (.string ⟨#[]⟩) 16 (by rfl) (by rfl) Tryz.underlying31 za9 (by rfl) (by omega) (by rfl) (by rfl) (OwnV.ext HV.out (HX5.out.trans zx)) (ai.out.trans zx) (Vec.lit2 (by simp) rfl rfl) (by omega) ?_;intro v' w6 aa ac ad)))
     have HN:=Za aa
     have HF:=Za (show (ws++[T])++(grpA (l.drop q)).map (fun x=>phW x.1 x.2)=(grpA l).map (fun x=>phW x.1 x.2) by
      rw [<-HT.out,aj.out,<-ak.out]
      simp)
     clear aa ad
     go_roundw
     case rel=>exact ⟨v',q,j+1,ws++[T],rfl,by go_num,by omega,by have:=HQ.out;omega,HN,ac,HF⟩
     case measure=>have:=HQ.out;simp [intOf];omega
  ·obtain rfl:k=n:=by omega
   have al:=Za (show ws=(grpA l).map (fun x=>phW x.1 x.2) by
    have h9:=HT.out
    rw [ZE (Nat.le_of_eq HL.out)] at h9
    simpa [grpA] using h9)
   obtain ⟨A9,c9,rfl,av, -⟩:=zan HV.out
   have HJ:=Za (fun w' (h:Ext wa w')=>zj9 w.heap.size j c9 A9 ws 9 w' (OwnV.ext HV.out h) (by rw [al.out];have:=HW.out;omega) (by omega))
   clear av
   go_wp2_with (go_at_call 85;((with_reducible refine (HJ.out _ zx).mono ?_);rintro e w8 ⟨rfl,hq8⟩))
   go_ret
   exact ⟨by rw [ap.out,al.out];rfl,HE.out.trans zx⟩
end Go.Proofs.YtbjgpbojjhldaaaGreatDoor
/- words: number. -/
namespace Go.Proofs.YtbjgpbojjhldaaaGreatDoor
set_option maxRecDepth 100000
open Go.RowKit
theorem zlE {l:List UInt8} {k:Nat} (h:k<l.length) (hd:isDg (l.getD k 0)=true):(valD (l.take (k+1)):Int)=10*(valD (l.take k):Int)+((l.getD k 0).toNat-48:Int):=by
 have h2:=zdZ hd
 rw [List.take_succ_eq_append_getElem h,zeZ]
 rw [Zd,Zf h] at h2 ⊢
 simp only [Option.getD_some] at h2 ⊢
 omega
theorem zdR (l:List UInt8) (w:World) :
  Calls Tryz.prog 181 #[.string ⟨l.toArray⟩] w fun e w'=>e = .returned (.tuple #[.int .i64 (valD (l.take (headD 4 l)):Nat),.string ⟨(l.drop (headD 4 l)).toArray⟩,.bool (decide (0<headD 4 l))])/\Ext w w':=by
 obtain ⟨ae,af,ab⟩:=zbJ 4 l
 have HP:=Za (fun k=>zd2 (k:=4) (l:=l) (n:=k))
 have HV:=Za (fun (k:Nat) (h:k<l.length) (hd:isDg (l.getD k 0)=true)=>zlE h hd)
 have HS:=Za (fun (k:Nat) (h1:k<=headD 4 l)=>zcF (l:=l.take k) (by
  rw [Zu] at ab ⊢
  intro x hx
  exact ab x ((List.take_subset_take_left l h1) hx)) (by rw [Zw];omega))
 obtain ⟨N,hN⟩:∃N,headD 4 l=N:=⟨_,rfl⟩
 rw [hN] at ae af HP HS ⊢
 clear ab hN
 have ad:=fun k=>zaY l k l.length (Zb _)
 go_enter Tryz.func181,Tryz.ntmps181
 go_wp2_with fail
 go_loopw [2,5] (fun v i wr=>∃(k:Nat),v = .int .i64 (valD (l.take k):Nat)/\i = .int .i64 k/\k<=N/\Hid (Ext w wr)) (fun _ i _=>N-(intOf i).toNat)
 case atStart=>exact ⟨0,rfl,rfl,ZK _,Za zx⟩
 case round =>
  obtain ⟨k,rfl,rfl,hk,HE⟩:=hrel
  have aa:=HP.out k hk
  have hv:=HS.out k hk
  by_cases hlt:k<N
  ·obtain ⟨h1,h2,h3⟩:=aa.1 hlt
   have h4:=zdZ h3
   have h5:=zcq l k
   have h6:=Za (HV.out k h2 h3)
   clear aa h3
   have q0:(0:Int)<=(k:Int):=by omega
   have q1:(k:Int)<(l.length:Int):=by omega
   have q2:(k:Int)<4:=by omega
   generalize valD (l.take k)=V at *
   generalize hc:l.getD k 0=c at *
   have q3:(48:Int)<=(c.toNat:Int):=by omega
   have q4:(c.toNat:Int)<=57:=by omega
   clear hc
   go_wp2_with fail
   go_roundw
   case rel=>exact ⟨k+1,by first | (congr 1;have:=h6.out;omega) | go_num,by go_num,by omega,Za (by have:=HE.out;repeat (first|exact zr _|assumption|refine za ?_ _|refine zd ?_|refine zn ?_ _|refine zt ?_ (by assumption)))⟩
   case measure=>simp [intOf];omega
  ·obtain rfl:N=k:=by omega
   have ac:¬(N<4/\N<l.length/\isDg (l.getD N 0)=true):=fun h=>hlt (aa.2 h)
   have h5:=zcq l N
   have q0:(0:Int)<=(N:Int):=by omega
   have HC:=Za (show ¬((N:Int)<(l.length:Int))∨((N:Int)<(l.length:Int)/\¬(N:Int)<4)∨((N:Int)<(l.length:Int)/\(N:Int)<4/\((l.getD N 0).toNat:Int)<48)∨((N:Int)<(l.length:Int)/\(N:Int)<4/\(48:Int)<=((l.getD N 0).toNat:Int)/\(57:Int)<((l.getD N 0).toNat:Int)) from by
    by_cases a1:N<l.length
    ·by_cases a2:N<4
     ·have a3:¬isDg (l.getD N 0)=true:=fun h=>ac ⟨a2,a1,h⟩
      simp only [isDg,Zp,Zy,UInt8.le_iff_toNat_le] at a3
      have e1:(48:UInt8).toNat=48:=rfl
      have e2:(57:UInt8).toNat=57:=rfl
      omega
     ·omega
    ·omega)
   clear aa ac hv HS HV HP
   have hxE:=ad N
   generalize l.getD N 0=c at *
   clear ad
   rcases HC.out with q1 | ⟨q1,q2⟩ | ⟨q1,q2,q3⟩ | ⟨q1,q2,q3,q4⟩ <;> clear HC
   all_goals
    go_wp2_with fail
    go_quiet (fail)
    go_wp2
    go_ret3
    exact ⟨by first | rfl | (simp;done) | (simp;omega),by have:=HE.out;repeat (first|exact zr _|assumption|refine za ?_ _|refine zd ?_|refine zn ?_ _|refine zt ?_ (by assumption))⟩
end Go.Proofs.YtbjgpbojjhldaaaGreatDoor
/- What read returns of whatever word. -/
namespace Go.Proofs.YtbjgpbojjhldaaaGreatDoor
set_option maxRecDepth 100000
open Go.RowKit
def ReadR (x:St×Int) (w:World) (e:Ending) (w':World):Prop:=e = .returned (.tuple #[.agg #[.int .u8 x.1.k,.bool x.1.p,.int .i64 x.1.a,.int .i64 x.1.b],.int .i64 x.2])/\Ext w w'
theorem zaC {l:List UInt8} {x:St×Int} {w:World} {k:Int} {p:Bool} {a b n:Int} (h:Calls Tryz.prog 147 #[.string ⟨l.toArray⟩] w fun e w'=>e = .returned (.tuple #[.agg #[.int .u8 k,.bool p,.int .i64 a,.int .i64 b],.int .i64 n])/\Ext w w') (hx:x=(⟨k,p,a,b⟩,n)) :
  Calls Tryz.prog 147 #[.string ⟨l.toArray⟩] w (ReadR x w):=by
 subst hx
 exact h
theorem zna {l:List UInt8} (h:¬0<=(numR l).1):(numR l).1 = -1:=by
 unfold numR at h ⊢
 split
 ·rfl
 ·rename_i h1
  rw [if_neg h1] at h
  exact absurd (Int.natCast_nonneg _) h
theorem zgB {d:UInt8} (h1:d≠102) (h2:d≠108) (h3:d≠109) (h4:d≠120) (h5:d≠121) (h6:d≠115) (h7:d≠111) (h8:d≠63):Lib.indexByte letters d = -1/\kindL d=3:=by
 constructor
 ·simp [letters,Lib.indexByte,Ne.symm h1,Ne.symm h2,Ne.symm h3,Ne.symm h4,Ne.symm h5,Ne.symm h6,Ne.symm h7,Ne.symm h8]
 ·simp [kindL,h1,h2,h3,h4,h5,h6,h7,h8]
theorem zkO (d:UInt8) (r:List UInt8) (c:UInt8) (cv:Bool) (hc:c=107/\cv=false∨c=112/\cv=true) (hl:(c::d::r:List UInt8).length<=100000) (hn:(numR (d::r)).1 = -1) (w:World) (hg:Glob w) :
  Calls Tryz.prog 147 #[.string ⟨(c::d::r:List UInt8).toArray⟩] w (ReadR (readK cv d r,1) w):=by
 have H:RdH (c::d::r) (d::r) r d c:=by
  refine ⟨hl,by simp,by simp,?_,?_,?_,?_,?_,?_,hn⟩
  ·rcases hc with ⟨rfl,_⟩ | ⟨rfl,_⟩ <;> simp
  ·rcases hc with ⟨rfl,_⟩ | ⟨rfl,_⟩ <;> simp [List.isPrefixOf]
  ·exact fun h=>zcq (c::d::r) 0 h
  ·exact zaY (c::d::r) 1 _ (Zb _)
  ·exact fun h=>zcq (d::r) 0 h
  ·exact zaY (d::r) 1 _ (Zb _)
 by_cases h0:d=102
 ·subst h0
  exact zaC (zfx _ _ _ _ c cv H hc 0 0 3 rfl (by simp) w hg) rfl
 by_cases h1:d=108
 ·subst h1
  exact zaC (zfx _ _ _ _ c cv H hc 1 1 4 rfl (by simp) w hg) rfl
 by_cases h2:d=109
 ·subst h2
  exact zaC (zfx _ _ _ _ c cv H hc 2 2 5 rfl (by simp) w hg) rfl
 by_cases h3:d=120
 ·subst h3
  exact zaC (zoH _ _ _ _ c cv H hc 3 3 6 rfl (by simp) w hg) rfl
 by_cases h4:d=121
 ·subst h4
  exact zaC (zoH _ _ _ _ c cv H hc 4 4 7 rfl (by simp) w hg) rfl
 by_cases h5:d=115
 ·subst h5
  exact zaC (zrv _ _ _ _ c cv H hc rfl w hg) rfl
 by_cases h6:d=111
 ·subst h6
  exact zaC (zfx _ _ _ _ c cv H hc 6 6 10 rfl (by simp) w hg) rfl
 by_cases h7:d=63
 ·subst h7
  exact zaC (zru _ _ _ _ c cv H hc rfl w hg) rfl
 obtain ⟨hi,hk⟩:=zgB h0 h1 h2 h3 h4 h5 h6 h7
 refine zaC (zfx _ _ _ _ c cv H hc (-1) 0 3 hi (by simp) w hg) ?_
 unfold readK
 rw [hk]
 rfl
theorem zdD (R:List UInt8) (c:UInt8) (cv:Bool) (hc:c=107/\cv=false∨c=112/\cv=true) (hl:(c::R:List UInt8).length<=100000) (w:World) (hg:Glob w) :
  Calls Tryz.prog 147 #[.string ⟨(c::R:List UInt8).toArray⟩] w (ReadR (readW (c::R)) w):=by
 have hE:((c::R:List UInt8)==[121,111])=false:=by rcases hc with ⟨rfl,_⟩ | ⟨rfl,_⟩ <;> simp
 have hP:[111,110].isPrefixOf (c::R:List UInt8)=false:=by rcases hc with ⟨rfl,_⟩ | ⟨rfl,_⟩ <;> simp [List.isPrefixOf]
 have h0:=zcq (c::R) 0
 have hx:=zaY (c::R) 1 _ (Zb _)
 simp only [ZY,List.drop_succ_cons,List.drop_zero] at h0 hx
 cases R with
 | nil=>exact zaC (zfy [c] [] (-1) c cv hc hl rfl hE hP h0 hx rfl (.inl rfl) w hg) (by rcases hc with ⟨rfl,rfl⟩ | ⟨rfl,rfl⟩ <;> rfl)
 | cons d r =>
  by_cases h5:0<=(numR (d::r)).1
  ·refine zaC (zfy (c::d::r) (d::r) (numR (d::r)).1 c cv hc hl rfl hE hP h0 hx rfl (.inr ⟨rfl,h5⟩) w hg) ?_
   rcases hc with ⟨rfl,rfl⟩ | ⟨rfl,rfl⟩ <;> simp [readW,h5]
  ·have h7:readW (c::d::r)=(readK cv d r,1):=by rcases hc with ⟨rfl,rfl⟩ | ⟨rfl,rfl⟩ <;> simp [readW,h5]
   rw [h7]
   exact zkO d r c cv hc hl (zna h5) w hg
theorem zhM (l:List UInt8) (hl:l.length<=100000) (w:World) (hg:Glob w):Calls Tryz.prog 147 #[.string ⟨l.toArray⟩] w (ReadR (readW l) w):=by
 cases l with
 | nil=>exact zaC (zp8 [] rfl rfl rfl w) rfl
 | cons c R =>
  by_cases h1:c=107
  ·subst h1;exact zdD R 107 false (.inl ⟨rfl,rfl⟩) hl w hg
  by_cases h2:c=112
  ·subst h2;exact zdD R 112 true (.inr ⟨rfl,rfl⟩) hl w hg
  by_cases hy:c=121/\R=[111]
  ·obtain ⟨rfl,rfl⟩:=hy
   exact zaC (zqb [121,111] rfl w) rfl
  have hE:((c::R:List UInt8)==[121,111])=false:=by
   rw [ZC]
   intro e
   injection e with e1 e2
   exact hy ⟨e1,e2⟩
  by_cases ho:c=111/\R.head?=some 110
  ·obtain ⟨rfl,h3⟩:=ho
   cases R with
   | nil=>cases h3
   | cons x t =>
    obtain rfl:x=110:=by simpa using h3
    have hx:=zaY (111::110::t) 2 _ (Zb _)
    simp only [List.drop_succ_cons,List.drop_zero] at hx
    refine zaC (zp9 (111::110::t) t hl hE (by simp [List.isPrefixOf]) (by simp) (by simp;omega) hx w hg) ?_
    simp [readW]
  ·have hP:[111,110].isPrefixOf (c::R:List UInt8)=false:=by
    rw [Bool.eq_false_iff]
    intro e
    cases R with
    | nil=>simp [List.isPrefixOf] at e
    | cons x t =>
     simp [List.isPrefixOf] at e
     exact ho ⟨e.1.symm,by simp [e.2]⟩
   have h0:=zcq (c::R) 0
   simp only [ZY] at h0
   refine zaC (znm (c::R) c hE hP rfl (by simp) h0 ?_ ?_ w) ?_
   ·rw [bne_iff_ne]
    intro e
    apply h1
    apply UInt8.toNat_inj.1
    have:c.toNat=107:=by omega
    rw [this];rfl
   ·rw [bne_iff_ne]
    intro e
    apply h2
    apply UInt8.toNat_inj.1
    have:c.toNat=112:=by omega
    rw [this];rfl
   ·unfold readW
    simp only [hy,ho,h1,h2,if_false,or_self,not_false_eq_true,if_true]
    rfl
end Go.Proofs.YtbjgpbojjhldaaaGreatDoor
/- Parse of stitches. -/
namespace Go.Proofs.YtbjgpbojjhldaaaGreatDoor
set_option maxRecDepth 100000
open Go.RowKit Go.ChangeShapes Go.WideShapes Go.Joins
theorem zkc (c:UInt8):0<=kindL c/\kindL c<=255:=by
 unfold kindL
 repeat' split
 all_goals omega
theorem zfw (p:Bool) (c:UInt8) (r:List UInt8):0<=(readK p c r).k/\(readK p c r).k<=255:=zkc c
theorem zkL (l:List UInt8):(1<=(readW l).2/\(readW l).2<=201)/\0<=(readW l).1.k/\(readW l).1.k<=255:=by
 have h0:(0:Int)<=st0.k/\st0.k<=255:=by decide
 unfold readW
 repeat' split
 all_goals (refine ⟨⟨?_,?_⟩,?_,?_⟩ <;> first | (simp;done) | (simp only;omega) | exact h0.1 | exact h0.2 | exact (zfw _ _ _).1 | exact (zfw _ _ _).2)
def parseE (s:List UInt8):Int:=if (parseL s).isSome then 0 else 12
def parseV (s:List UInt8):List St:=(parseL s).getD []
def ParseR (s:List UInt8) (w:World) (e:Ending) (w':World):Prop:=∃v,e = .returned (.tuple #[v,.int .i64 (parseE s)])/\OwnV shSt w' w.heap.size 92 v (parseV s).length (parseV s)/\Ext w w'
theorem zcC {s:List UInt8} (h:parseL s=none):parseE s=12/\parseV s=[]:=by
 unfold parseE parseV
 rw [h]
 exact ⟨rfl,rfl⟩
theorem zbK {s:List UInt8} {l:List St} (h:parseL s=some l):parseE s=0/\parseV s=l:=by
 unfold parseE parseV
 rw [h]
 exact ⟨rfl,rfl⟩
theorem zbi {s:List UInt8} {w w':World} (h:parseL s=none) (hb:Ext w w'):ParseR s w (.returned (.tuple #[.slice none 0 0,.int .i64 12])) w':=by
 obtain ⟨h1,h2⟩:=zcC h
 refine ⟨_,by rw [h1],?_,hb⟩
 rw [h2]
 exact OwnV.nil _ _ _ _
theorem zed {s:List UInt8} {l:List St} {v:Value} {w w':World} (h:parseL s=some l) (hv:OwnV shSt w' w.heap.size 92 v l.length l) (hb:Ext w w'):ParseR s w (.returned (.tuple #[v,.int .i64 0])) w':=by
 obtain ⟨h1,h2⟩:=zbK h
 refine ⟨v,by rw [h1],?_,hb⟩
 rw [h2]
 exact hv
theorem ziG {s:List UInt8} {acc:List St} (hs:s.length<=3000) (h0:s≠[]) (h:parseGo [] (spl 32 s)=some acc):parseL s=if allE acc=0/\textL acc=s then some acc else none:=by
 rw [parseL,if_neg (by omega),parseW,if_neg h0,h]
 rfl
theorem ziF {s:List UInt8} (hs:s.length<=3000) (h0:s≠[]) (h:parseGo [] (spl 32 s)=none):parseL s=none:=by
 rw [parseL,if_neg (by omega),parseW,if_neg h0,h]
 rfl
theorem zpj {ws:List (List UInt8)} {k:Nat} (hk:k<ws.length) (acc:List St):parseGo acc (ws.drop k)=if okSt (readW (ws.getD k [])).1=true/\(acc.length:Int)+(readW (ws.getD k [])).2<=200 then parseGo (acc++List.replicate (readW (ws.getD k [])).2.toNat (readW (ws.getD k [])).1) (ws.drop (k+1)) else none:=by
 rw [ZL hk,parseGo,Zd,Zf hk]
 rfl
theorem zcr {w:World} {g n:Nat} {ws:List (List UInt8)} (h:Vec shStr w (some ⟨g,0,none⟩) n ws) {k:Nat} (hk:k<n):w.cell? ⟨g,k,none⟩=some (.string ⟨(ws.getD k []).toArray⟩):=by
 have hl:=h.1
 have h1:=h.cells_at k (.string ⟨(ws.getD k []).toArray⟩) (by rw [zb7,List.getElem?_map,Zd,Zf (by omega)];rfl)
 rw [show Addr.add ⟨g,0,none⟩ k=⟨g,k,none⟩ by cases k <;> simp [Addr.add]] at h1
 exact h1
theorem zeS (c:UInt8) (l:List UInt8):(spl c l).length<=l.length+1/\∀x∈spl c l,x.length<=l.length:=by
 induction l with
 | nil=>simp [spl]
 | cons a l ih =>
  obtain ⟨i1,i2⟩:=ih
  unfold spl
  split
  ·refine ⟨by simp;omega,fun x hx=>?_⟩
   rcases Zx.1 hx with rfl | hx
   ·simp
   ·have:=i2 x hx;simp;omega
  ·split
   ·rename_i h t e
    rw [e] at i1 i2
    refine ⟨by simp at i1 ⊢;omega,fun x hx=>?_⟩
    rcases Zx.1 hx with rfl | hx
    ·have:=i2 h (by simp);simp;omega
    ·have:=i2 x (by simp [hx]);simp;omega
   ·exact ⟨by simp,fun x hx=>by simp at hx;subst hx;simp⟩
theorem OwnV.down {α:Type} {S:Shp α} {w:World} {B B':Nat} {e:TypeId} {v:Value} {k:Nat} {L:List α} (h:OwnV S w B e v k L) (hb:B'<=B):OwnV S w B' e v k L :=
 ⟨h.1,h.2.imp id fun ⟨g,cap,cur,h0,hB,r⟩=>⟨g,cap,cur,h0,Zv hb hB,r⟩⟩
theorem zbI {l:List St} (h:allB l=true):Bytes l:=zhh fun s hs=>by
 obtain ⟨hk, -⟩:=zhG (Zu.1 h s hs)
 rcases zad hk with e | e | e | e | e | e | e | e | e | e <;> omega
theorem ziI (l:List UInt8) (hl:3000<l.length) (h:(l.length:Int)<=1000000000) (w:World):Calls Tryz.prog 107 #[.string ⟨l.toArray⟩] w (ParseR l w):=by
 have h1:=Za (show parseL l=none by rw [parseL,if_pos hl])
 have h2:(3000:Int)<(l.length:Int):=by omega
 clear hl
 go_enter Tryz.func107,Tryz.ntmps107
 go_wp2_with fail
 go_ret2
 exact zbi h1.out zx
theorem ziJ (l:List UInt8) (h0:l≠[]) (hl:l.length<=3000) (w:World) (hg:Glob w):Calls Tryz.prog 107 #[.string ⟨l.toArray⟩] w (ParseR l w):=by
 have HG:=Za hg
 have HS:=Za (zcp l 32 (by omega) w hg)
 have aT:=zeS 32 l
 have ax:=Za (fun (acc:List St) (h:parseGo [] (spl 32 l)=some acc)=>ziG hl h0 h)
 have ar:=Za (fun (h:parseGo [] (spl 32 l)=none)=>ziF hl h0 h)
 generalize spl 32 l=ws at *
 obtain ⟨hw1,aK⟩:=aT
 have HW:=Za aK
 have hlen:¬(3000:Int)<(l.length:Int):=by omega
 have hE:(l==[])=false:=by simpa using h0
 clear hg aK h0
 go_enter Tryz.func107,Tryz.ntmps107
 go_wp2_with (go_at_call 66;((with_reducible refine HS.out.mono ?_);rintro e w1 ⟨g,n,rfl,aF,aH⟩;have ay:=Za aF;have aB:=Za aH;clear aF aH))
 have hn:ws.length=n:=aB.out.1
 have hn2:n<=3001:=by omega
 go_loopw [4,15] (fun u i wr=>∃(V:Value) (k:Nat) (acc:List St),V=u/\i = .int .i64 k/\k<=n/\acc.length<=200/\Hid (allB acc=true)/\Hid (OwnV shSt wr w1.heap.size 92 V acc.length acc)/\Hid (Ext w1 wr)/\Hid (parseGo [] ws=parseGo acc (ws.drop k))) (fun _ i _=>n-(intOf i).toNat)
 case atStart=>exact ⟨_,0,[],rfl,rfl,ZK _,by simp,Za rfl,Za (OwnV.nil _ _ _ _),Za (Ze _),Za rfl⟩
 case round =>
  obtain ⟨V,k,acc,rfl,rfl,hk,aP,HB,HV,ah,HP⟩:=hrel
  have HE:=Za (ay.out.trans ah.out)
  obtain ⟨A9,c9,rfl,aJ, -⟩:=zan HV.out
  have aC:=Za aJ
  clear aJ
  by_cases hlt:k<n
  ·have ai:=zcr (Vec.ext aB.out ah.out) hlt
   have hz:=Zn wr _ ai
   have hd:=HP.out.trans (zpj (ws:=ws) (k:=k) (by omega) acc)
   have aU:=HW.out (ws.getD k []) (by rw [Zd,Zf (by omega)];exact List.getElem_mem _)
   generalize ws.getD k []=x at *
   have HR:=Za (fun (w':World) (hg':Glob w')=>zhM x (by omega) w' hg')
   obtain ⟨⟨aQ,aR⟩,ao,ap⟩:=zkL x
   generalize readW x=rd at *
   obtain ⟨⟨sk,sp,sa,sb⟩,m⟩:=rd
   simp only at aQ aR ao ap hd
   obtain ⟨N,rfl⟩:∃N:Nat,m=(N:Int):=⟨m.toNat,by omega⟩
   rw [Int.toNat_natCast] at hd
   have HD:=Za hd
   have q5:(k:Int)<(n:Int):=by omega
   clear hd aU HP HW
   by_cases hok:okSt ⟨sk,sp,sa,sb⟩=true
   ·have am:=Za (show okE ⟨sk,sp,sa,sb⟩=0 by rw [okE,if_pos hok])
    by_cases hm:(acc.length:Int)+(N:Int)<=200
    ·have aS:¬(200:Int)<(acc.length:Int)+(N:Int):=by omega
     have HF:=Za (HD.out.trans (if_pos (And.intro hok hm)))
     have aL:=Za (show allB (acc++List.replicate N (⟨sk,sp,sa,sb⟩:St))=true by
      rw [zes,HB.out,Bool.true_and,allB,Zu]
      intro y hy
      rw [List.eq_of_mem_replicate hy]
      exact hok)
     clear hok HD
     go_wp2_with (first
      | (go_at_call 147;((with_reducible refine (HR.out _ (HG.out.ext HE.out)).mono ?_);rintro e w2 ⟨rfl,aa⟩;have ac:=Za (HE.out.trans aa);have ad:=Za (ah.out.trans aa);have au:=Za aa;clear aa))
      | (go_at_call 52;((with_reducible refine (zaG sk sp sa sb ao ap _).mono ?_);rintro e w3 ⟨rfl,ab⟩;rw [am.out];obtain ⟨hf1,aD,aE⟩:=ab.facts;have ag:=Za ab;clear ab))
      | (go_at_call 148;((refine (ziN ⟨sk,sp,sa,sb⟩ N (by omega) (by omega) _ _ _ _ (Vec.lit2 (by simp) rfl rfl)).mono ?_);rintro e w4 ⟨v4,rfl,aI,aG⟩;obtain ⟨A4,c4,rfl,al, -⟩:=zan aI;have az:=Za aG;have aN:=Za al;clear aG aI al))
      | (at_builtin;(refine zaa (S:=shSt) (w:=w1) (m:=N) (xs:=List.replicate N (⟨sk,sp,sa,sb⟩:St)) 43 92 (.agg #[.int .u8 0,.bool false,.int .i64 0,.int .i64 0]) 24 (by rfl) (by rfl) Tryz.underlying43 zdt (by rfl) (by omega) (by rfl) (by rfl) (OwnV.ext (OwnV.ext HV.out au.out) (Zm (by repeat (first | exact Ze _ | refine ZD ?_ _)) (ag.out.trans (Zm (by repeat (first | exact Ze _ | refine ZD ?_ _)) az.out)))) (ad.out.trans (Zm (by repeat (first | exact Ze _ | refine ZD ?_ _)) (ag.out.trans (Zm (by repeat (first | exact Ze _ | refine ZD ?_ _)) az.out)))) aN.out (by omega) ?_;intro v' w6 af aj aw)))
     have HN:=Za (show OwnV shSt w6 w1.heap.size 92 v' (acc++List.replicate N (⟨sk,sp,sa,sb⟩:St)).length (acc++List.replicate N (⟨sk,sp,sa,sb⟩:St)) by
      rw [Zc,ZH]
      exact af)
     clear af aw
     go_roundw
     case rel=>exact ⟨v',k+1,acc++List.replicate N (⟨sk,sp,sa,sb⟩:St),rfl,by go_num,by omega,by rw [Zc,ZH];omega,aL,HN,aj,HF⟩
     case measure=>simp [intOf];omega
    ·have aS:(200:Int)<(acc.length:Int)+(N:Int):=by omega
     have HF:=Za (ar.out (HD.out.trans (if_neg (fun h=>hm h.2))))
     clear hok hm HD
     go_wp2_with (first
      | (go_at_call 147;((with_reducible refine (HR.out _ (HG.out.ext HE.out)).mono ?_);rintro e w2 ⟨rfl,aa⟩;have ac:=Za (HE.out.trans aa);have ad:=Za (ah.out.trans aa);have au:=Za aa;clear aa))
      | (go_at_call 52;((with_reducible refine (zaG sk sp sa sb ao ap _).mono ?_);rintro e w3 ⟨rfl,ab⟩;rw [am.out];obtain ⟨hf1,aD,aE⟩:=ab.facts;have ag:=Za ab;clear ab)))
     go_ret2
     exact zbi HF.out (ac.out.trans (Zm (by repeat (first | exact Ze _ | refine ZD ?_ _)) ag.out))
   ·have am:=Za (show okE ⟨sk,sp,sa,sb⟩=8 by rw [okE,if_neg hok])
    have HF:=Za (ar.out (HD.out.trans (if_neg (fun h=>hok h.1))))
    clear hok HD
    go_wp2_with (first
     | (go_at_call 147;((with_reducible refine (HR.out _ (HG.out.ext HE.out)).mono ?_);rintro e w2 ⟨rfl,aa⟩;have ac:=Za (HE.out.trans aa);have ad:=Za (ah.out.trans aa);have au:=Za aa;clear aa))
     | (go_at_call 52;((with_reducible refine (zaG sk sp sa sb ao ap _).mono ?_);rintro e w3 ⟨rfl,ab⟩;rw [am.out];obtain ⟨hf1,aD,aE⟩:=ab.facts;have ag:=Za ab;clear ab)))
    go_ret2
    exact zbi HF.out (ac.out.trans (Zm (by repeat (first | exact Ze _ | refine ZD ?_ _)) ag.out))
  ·obtain rfl:k=n:=by omega
   have ak:parseGo [] ws=some acc:=by
    have h9:=HP.out
    rw [ZE (by omega)] at h9
    exact h9
   have HL:=Za (ax.out acc ak)
   have aO:=Za (OwnV.down HV.out ay.out.size)
   have av:=Za (fun (w':World) (hb:Ext wr w')=>zcm acc.length c9 A9 acc w' (aC.out.ext hb) (by unfold maxLen;omega) (zbI HB.out))
   have aA:=Za (fun (w':World) (hb:Ext wr w')=>zeV acc.length c9 A9 acc w' (aC.out.ext hb) aP HB.out (HG.out.ext (HE.out.trans hb)))
   clear ak HP ax ar HW
   by_cases hA:allE acc=0
   ·by_cases hT:textL acc=l
    ·have HF:=Za (HL.out.trans (if_pos (And.intro hA hT)))
     have aq:=Za hA
     have aM:=Za hT
     clear hA hT
     go_wp2_with (first
      | (go_at_call 49;((with_reducible refine (av.out _ (Ze _)).mono ?_);rintro e w2 ⟨rfl,aa⟩;rw [aq.out];have ac:=Za aa;clear aa))
      | (go_at_call 50;((with_reducible refine (aA.out _ ac.out).mono ?_);rintro e w3 ⟨rfl,ab⟩;rw [aM.out];have ad:=Za (ac.out.trans ab);clear ab)))
     go_ret2
     exact zed HF.out (aO.out.ext ad.out) (HE.out.trans ad.out)
    ·have HF:=Za (HL.out.trans (if_neg (fun h=>hT h.2)))
     have aq:=Za hA
     have hT2:(textL acc==l)=false:=by simpa using hT
     clear hA hT
     generalize textL acc=T at *
     go_wp2_with (first
      | (go_at_call 49;((with_reducible refine (av.out _ (Ze _)).mono ?_);rintro e w2 ⟨rfl,aa⟩;rw [aq.out];have ac:=Za aa;clear aa))
      | (go_at_call 50;((with_reducible refine (aA.out _ ac.out).mono ?_);rintro e w3 ⟨rfl,ab⟩;have ad:=Za (ac.out.trans ab);clear ab)))
     go_ret2
     exact zbi HF.out (HE.out.trans ad.out)
   ·have HF:=Za (HL.out.trans (if_neg (fun h=>hA h.1)))
    generalize hae:allE acc=ae at *
    have hb8:(ae != 0)=true:=by simpa using hA
    clear hA
    go_wp2_with (first
     | (go_at_call 49;((with_reducible refine (av.out _ (Ze _)).mono ?_);rintro e w2 ⟨rfl,aa⟩;have ac:=Za aa;clear aa)))
    go_ret2
    exact zbi HF.out (HE.out.trans ac.out)
theorem zkC (w:World) (hg:Glob w):Calls Tryz.prog 107 #[.string ⟨([]:List UInt8).toArray⟩] w (ParseR [] w):=by
 have HG:=Za hg
 have HS:=Za (zcp [] 32 (by simp) w hg)
 have HR:=Za (fun (w':World) (hg':Glob w')=>zhM [] (by simp) w' hg')
 have HF:=Za (show parseL []=some [] by decide +kernel)
 have am:=Za (fun (w':World)=>zcm 0 0 none [] w' (Vec.none_ _ _ _) (by unfold maxLen;omega) (zbI rfl))
 have ao:=Za (fun (w':World) (hg':Glob w')=>zeV 0 0 none [] w' (Vec.none_ _ _ _) (by omega) rfl hg')
 clear hg
 go_enter Tryz.func107,Tryz.ntmps107
 go_wp2_with (go_at_call 66;((with_reducible refine HS.out.mono ?_);rintro e w1 ⟨g,n,rfl,ae,ai⟩;have aj:=Za ae;have ad:=Za ai;clear ae ai))
 obtain rfl:n=1:=ad.out.1.symm
 go_loopw [4,15] (fun u i wr=>u = .slice none 0 0/\i = .int .i64 0/\Hid (Ext w1 wr)) (fun _ i _=>0)
 case atStart=>exact ⟨rfl,rfl,Za (Ze _)⟩
 case round =>
  obtain ⟨rfl,rfl,ab⟩:=hrel
  have HE:=Za (aj.out.trans ab.out)
  have aa:=zcr (Vec.ext ad.out ab.out) (k:=0) (by omega)
  have hz:=Zn wr _ aa
  rw [show (spl 32 []).getD 0 []=([]:List UInt8) from rfl] at aa
  go_wp2_with (first
   | (go_at_call 147;((with_reducible refine (HR.out _ (HG.out.ext HE.out)).mono ?_);rintro e w2 ⟨rfl,af⟩;have ak:=Za (HE.out.trans af);clear af))
   | (go_at_call 49;((with_reducible refine (am.out _).mono ?_);rintro e w3 ⟨rfl,ag⟩;rw [show allE []=0 from rfl];have ac:=Za (ak.out.trans (Zm (by repeat (first | exact Ze _ | refine ZD ?_ _)) ag));clear ag))
   | (go_at_call 50;((with_reducible refine (ao.out _ (HG.out.ext ac.out)).mono ?_);rintro e w4 ⟨rfl,ah⟩;rw [show textL []=[] from rfl];have al:=Za (ac.out.trans ah);clear ah)))
  go_ret2
  exact zed HF.out (OwnV.nil _ _ _ _) al.out
theorem zdB (l:List UInt8) (hl:l.length<=1000000000) (w:World) (hg:Glob w):Calls Tryz.prog 107 #[.string ⟨l.toArray⟩] w (ParseR l w):=by
 by_cases h:3000<l.length
 ·exact ziI l h (by omega) w
 ·cases l with
  | nil=>exact zkC w hg
  | cons c r=>exact ziJ _ (by simp) (by omega) w hg
end Go.Proofs.YtbjgpbojjhldaaaGreatDoor
/- words: match. -/
namespace Go.Proofs.YtbjgpbojjhldaaaGreatDoor
set_option maxRecDepth 100000
open Go.RowKit
theorem zf0:(Tryz.prog.info? 3).map (fun i=>(i.zero,i.size,i.bytes))=some (some (.int .i64 0),1,8):=by kernel_rfl
theorem OwnI.extW {w w':World} {B:Nat} {e:TypeId} {v:Value} {k:Nat} {L:List Int} (h:OwnI w B e v k L) (hb:Ext w w'):OwnI w' B e v k L:=World.ownsRow.kept h (But.of_ext hb none) (by cases v.ownBlock <;> simp)
def natI (l:List Nat):List Int:=l.map Int.ofNat
theorem zm4 (l:List Nat) (n:Nat):natI (l++[n])=natI l++[(n:Int)]:=by simp [natI]
def MtR (x:Option (List Nat×List UInt8)) (w:World) (e:Ending) (w':World):Prop:=Ext w w'/\match x with
 | none=>e = .returned (.tuple #[.slice none 0 0,.string ⟨#[]⟩,.bool false])
 | some (l,r)=>∃A c,e = .returned (.tuple #[.slice A l.length c,.string ⟨r.toArray⟩,.bool true])/\Ints w' A l.length (natI l)/\∀b off,A=some ⟨b,off,none⟩->w.heap.size<=b
theorem zpH {w w':World} {x:Option (List Nat×List UInt8)} (h:x=none) (hb:Ext w w'):MtR x w (.returned (.tuple #[.slice none 0 0,.string ⟨#[]⟩,.bool false])) w':=by
 subst h
 exact ⟨hb,rfl⟩
theorem zrh {w w':World} {x:Option (List Nat×List UInt8)} {l:List Nat} {r:List UInt8} {v:Value} {e:TypeId} {B:Nat} (h:x=some (l,r)) (hb:Ext w w') (ho:OwnI w' B e v l.length (natI l)) (hB:w.heap.size<=B):MtR x w (.returned (.tuple #[v,.string ⟨r.toArray⟩,.bool true])) w':=by
 subst h
 have aa:=zc3 ho
 obtain ⟨A,c,rfl,hi⟩:=zaB ho
 refine ⟨hb,A,c,rfl,hi,fun b off e=>?_⟩
 subst e
 have:=aa b (by simp [Value.ownBlock])
 omega
theorem zpG:∀(ps:List (List UInt8)) (b:Bool) (s:List UInt8) (acc l:List Nat) (r:List UInt8),mtG ps b s acc=some (l,r)->l.length+(if b then 0 else min 1 ps.length)=acc.length+ps.length:=by
 intro ps
 induction ps with
 | nil=>intro b s acc l r h;simp only [mtG,Option.some.injEq,Prod.mk.injEq] at h;rw [h.1];cases b <;> rfl
 | cons p ps ih =>
  intro b s acc l r h
  cases b with
  | false =>
   rw [mtG] at h
   split at h
   ·cases h
   ·have:=ih _ _ _ _ _ h
    simp at this ⊢
    omega
  | true =>
   rw [mtG] at h
   split at h
   ·cases h
   ·split at h
    ·cases h
    ·have:=ih _ _ _ _ _ h
     simp at this ⊢
     omega
theorem zhC {p:List UInt8} {ps:List (List UInt8)} {s:List UInt8} {acc:List Nat}:mtG (p::ps) false s acc=match cutP p s with
  | none=>none
  | some r=>mtG ps true r acc:=rfl
theorem zhD {p:List UInt8} {ps:List (List UInt8)} {s:List UInt8} {acc:List Nat}:mtG (p::ps) true s acc=if headD 4 s=0 then none else match cutP p (s.drop (headD 4 s)) with
  | none=>none
  | some r=>mtG ps true r (acc++[valD (s.take (headD 4 s))]):=rfl
theorem zb3 {p s r:List UInt8} (h:cutP p s=some r):r.length<=s.length:=by
 rw [cutP] at h
 split at h
 ·simp only [Option.some.injEq] at h
  subst h
  simp
 ·cases h
theorem zi5 (F:List UInt8) (parts:List (List UInt8)) (hF:spl 35 F=parts) (hFl:F.length<=1000) (hp4:parts.length<=4) (s:List UInt8) (hl:s.length<=100000) (w:World) (hg:Glob w) :
  Calls Tryz.prog 179 #[.string ⟨s.toArray⟩,.string ⟨F.toArray⟩] w (MtR (mtG parts false s []) w):=by
 have am:=Za (zcp F 35 (by omega) w hg)
 rw [hF] at am
 have ap:=Za hp4
 have HN:=Za (fun (l:List UInt8) (w:World)=>zdR l w)
 clear hF hFl hg hp4
 obtain ⟨x,hx⟩:∃x,mtG parts false s []=x:=⟨_,rfl⟩
 rw [hx]
 have aq:=Za hx
 clear hx
 go_enter Tryz.func179,Tryz.ntmps179
 go_wp2_with (go_at_call 66;((with_reducible refine am.out.mono ?_);rintro e w1 ⟨g,n,rfl,ar,ao⟩))
 have hn:=ao.1
 have HV:=Za ao
 have ak:=Za ar
 have hp4:n<=4:=by rw [<-hn];exact ap.out
 clear ao am
 go_loopw [0,4,19] (fun a v i wr=>∃(k:Nat) (r:List UInt8) (acc:List Nat),a = .string ⟨r.toArray⟩/\i = .int .i64 k/\k<=n/\r.length<=100000/\acc.length<=k/\Hid (OwnI wr w1.heap.size 3 v acc.length (natI acc))/\Hid (Ext w1 wr)/\Hid (mtG (parts.drop k) (decide (0<k)) r acc=x)) (fun _ _ i _=>n-(intOf i).toNat)
 case atStart=>exact ⟨0,s,[],rfl,rfl,ZK _,hl,Zb _,Za (OwnI.nil _ _ _),Za (Ze _),aq⟩
 case round =>
  obtain ⟨k,r,acc,rfl,rfl,hk,hr,hacc,HO,HE,HX⟩:=hrel
  have al:=Za (ak.out.trans HE.out)
  by_cases hlt:k<n
  ·have ai:=zcr (HV.out.ext HE.out) hlt
   obtain ⟨p,hp⟩:∃p,parts.getD k []=p:=⟨_,rfl⟩
   rw [hp] at ai
   have HD:=Za (show parts.drop k=p::parts.drop (k+1) by
    rw [ZL (by omega),<-hp,Zd,Zf (by omega)]
    rfl)
   have q1:(k:Int)<(n:Int):=by omega
   have q0:(0:Int)<=(k:Int):=by omega
   clear hp
   by_cases hk0:k=0
   ·subst hk0
    have aa:=HX.out
    rw [HD.out,show decide (0<0)=false from rfl,zhC] at aa
    cases hcp:cutP p r with
    | none =>
     rw [hcp] at aa
     have ag:=Za aa.symm
     clear aa
     go_wp2_with (first
      | (go_at_call 217;((with_reducible refine (zcW p r _).mono ?_);rintro e w3 ⟨rfl,rfl⟩;rw [hcp];simp only [Option.isSome_none,Option.getD_none])))
     go_ret3
     exact zpH ag.out (al.out.trans zx)
    | some r2 =>
     rw [hcp] at aa
     have ah:=Za aa
     have au:=zb3 hcp
     clear aa
     go_wp2_with (first
      | (go_at_call 217;((with_reducible refine (zcW p r _).mono ?_);rintro e w3 ⟨rfl,rfl⟩;rw [hcp];simp only [Option.isSome_some,Option.getD_some])))
     go_roundw
     case rel=>exact ⟨1,r2,acc,rfl,by go_num,by omega,by omega,by omega,HO,HE,ah⟩
     case measure=>simp [intOf];omega
   ·have aa:=HX.out
    rw [HD.out,show decide (0<k)=true from by simp;omega,zhD] at aa
    have ae:=Za (fun W=>HN.out r W)
    have q2:(0:Int)<(k:Int):=by omega
    have hvs:=zcF (zbJ 4 r).2.2 (by rw [Zw];have:=(zbJ 4 r).1;omega)
    by_cases hh:headD 4 r=0
    ·rw [if_pos hh] at aa
     have ag:=Za aa.symm
     clear aa
     rw [hh] at ae
     go_wp2_with (first
      | (go_at_call 181;((with_reducible refine (ae.out _).mono ?_);rintro e w3 ⟨rfl,ad⟩)))
     go_ret3
     exact zpH ag.out (al.out.trans zx)
    ·rw [if_neg hh] at aa
     have aj:decide (0<headD 4 r)=true:=by simp;omega
     rw [aj] at ae
     have hrd:(r.drop (headD 4 r)).length<=100000:=by rw [ZA];omega
     clear aj hh
     generalize valD (r.take (headD 4 r))=V at *
     generalize r.drop (headD 4 r)=rd at *
     cases hcp:cutP p rd with
     | none =>
      rw [hcp] at aa
      have ag:=Za aa.symm
      clear aa
      go_wp2_with (first
       | (go_at_call 181;((with_reducible refine (ae.out _).mono ?_);rintro e w3 ⟨rfl,ad⟩;have af:=Za ad;clear ad))
       | (at_builtin;(refine zax (w:=w1) (k:=acc.length) (L:=natI acc) (X:=(V:Int)) 51 3 _ (by rfl) (by rfl) Tryz.underlying51 zf0 (by rfl) (by rfl) (HO.out.extW (ZD af.out _)) (HE.out.trans (ZD af.out _)) (by simp [World.cell?_alloc_new]) (by omega) ?_;intro v' w6 ac ab))
       | (go_at_call 217;((with_reducible refine (zcW p rd _).mono ?_);rintro e w7 ⟨rfl,rfl⟩;rw [hcp];simp only [Option.isSome_none,Option.getD_none])))
      go_ret3
      exact zpH ag.out (ak.out.trans ab.out)
     | some r2 =>
      rw [hcp] at aa
      have ah:=Za aa
      have au:=zb3 hcp
      clear aa
      go_wp2_with (first
       | (go_at_call 181;((with_reducible refine (ae.out _).mono ?_);rintro e w3 ⟨rfl,ad⟩;have af:=Za ad;clear ad))
       | (at_builtin;(refine zax (w:=w1) (k:=acc.length) (L:=natI acc) (X:=(V:Int)) 51 3 _ (by rfl) (by rfl) Tryz.underlying51 zf0 (by rfl) (by rfl) (HO.out.extW (ZD af.out _)) (HE.out.trans (ZD af.out _)) (by simp [World.cell?_alloc_new]) (by omega) ?_;intro v' w6 ac ab))
       | (go_at_call 217;((with_reducible refine (zcW p rd _).mono ?_);rintro e w7 ⟨rfl,rfl⟩;rw [hcp];simp only [Option.isSome_some,Option.getD_some])))
      go_roundw
      case rel=>exact ⟨k+1,r2,acc++[V],rfl,by go_num,by omega,by omega,by simp;omega,Za (by rw [zm4,Zc];exact ac),ab,ah⟩
      case measure=>simp [intOf];omega
  ·obtain rfl:k=n:=by omega
   have aa:=HX.out
   rw [ZE (by omega)] at aa
   have ah:=Za (show x=some (acc,r) by rw [<-aa];rfl)
   clear aa
   go_wp2_with fail
   go_ret3
   exact zrh ah.out (al.out.trans zx) (HO.out) (Zt ak.out)
end Go.Proofs.YtbjgpbojjhldaaaGreatDoor
