/- The text of a list of stitches. -/
import Derived.Test.YtkneghkbgingdaaGreatDoorK10
namespace Go.Proofs.YtkneghkbgingdaaGreatDoor
set_option maxHeartbeats 16000000
set_option maxRecDepth 100000
open Go.RowKit
theorem zkE {t:List St} {s:St} {n:Nat} {g:List (St×Nat)} (h:grp t=(s,n)::g):t≠[]∧t.getD 0 st0=s:=by
 cases t with
 | nil=>cases h
 | cons x t =>
  refine ⟨by simp,?_⟩
  rcases zbu x t with ⟨m,g',h1,h2,h3⟩ | ⟨h1,h2⟩
  ·rw [h3] at h;injection h with h4 _;injection h4
  ·rw [h1] at h;injection h with h4 _;injection h4
theorem zbv:∀(q:Nat) (l:List St) (s:St),1≤q→q≤l.length→(∀t,t<q→l.getD t st0=s)→(q=1∨s.k=1)→(s.k≠1∨q=l.length∨l.getD q st0≠s)→grp l=(s,q)::grp (l.drop q):=by
 intro q
 induction q with
 | zero=>intro l s h;omega
 | succ q ih =>
  intro l s _ hl hs hk hst
  cases l with
  | nil=>simp at hl
  | cons x t =>
   have hx:x=s:=by have:=hs 0 (by omega);simpa using this
   subst hx
   rcases Nat.eq_zero_or_pos q with h0 | h0
   ·subst h0
    rcases zbu x t with ⟨m,g,h1,h2,h3⟩ | ⟨h1,h2⟩
    ·exfalso
     obtain ⟨g1,g2⟩:=zkE h1
     rcases hst with h | h | h
     ·exact h h2
     ·simp at h;exact g1 h
     ·simp at h
      apply h
      rw [Zc] at g2
      exact g2
    ·rw [h1];rfl
   ·have hk1:x.k=1:=by rcases hk with h | h <;> first | omega | exact h
    have h4:=ih t x h0 (by simpa using hl) (fun j hj=>by have:=hs (j+1) (by omega);simpa using this) (.inr hk1) (by
     rcases hst with h | h | h
     ·exact .inl h
     ·right;left;simpa using h
     ·right;right;simpa using h)
    rw [grp,h4]
    simp [hk1]
theorem ziM (d:UInt8) (ws:List (List UInt8)) (m:Nat) (h:∀x∈ws,x.length≤m):(joinB d ws).length≤(m+1)*ws.length:=zde h
theorem zcs {x:St×Nat} (h:okSt x.1=true):(wordG x).length≤100:=by
 have h1:=Zq.1 zhi x.1 (zbD h)
 simp only [wordOk,Zs,Zx] at h1
 have h2:=zae x.2
 unfold wordG
 rw [Zh]
 split
 ·omega
 ·simp;omega
theorem zer (n c:Nat) (A:Option Addr) (l:List St) (w:World) (hl:Vec shSt w A n l) (hn:n≤200) (ho:allB l=true) (hg:Glob w) :
  Calls Tryz.prog 164 #[.slice A n c] w fun e w'=>e = .returned (.string ⟨(textL l).toArray⟩)∧Ext w w':=by
 have HX:=Za hl
 have HO:=Za ho
 have HG:=Za hg
 have HL:=Za hl.1
 have HW:=Za (show (joinB 32 ((grp l).map wordG)).length≤100000000 by
  have h1:=ziM 32 ((grp l).map wordG) 100 (fun x hx=>by
   obtain ⟨y,hy,rfl⟩:=List.mem_map.1 hx
   exact zcs (Zq.1 ho _ (zd3 hy).1))
  have h2:=ziH l
  have h3:=hl.1
  rw [List.length_map] at h1
  omega)
 clear hl ho hg
 go_enter Tryz.func164,Tryz.ntmps164
 go_wp2_with fail
 go_loopw [3,4] (fun u i wr=>∃(V:Value) (k j:Nat) (ws:List (List UInt8)),V=u∧i = .int .i64 k∧k≤n∧j≤k∧Hid (OwnV shStr wr w.heap.size 9 V j ws)∧Hid (Ext w wr)∧Hid (ws++(grp (l.drop k)).map wordG=(grp l).map wordG)) (fun _ i _=>n-(intOf i).toNat)
 case atStart=>exact ⟨_,0,0,[],rfl,rfl,Zu _,Zf _,Za (OwnV.nil _ _ _ _),Za zx,Za (by simp)⟩
 case round =>
  obtain ⟨V,k,j,ws,rfl,rfl,hk,hj,HV,HE,HT⟩:=hrel
  obtain ⟨wa,rfl⟩:∃wa:World,wa=wr:=⟨_,rfl⟩
  have hxr:=HE.out
  by_cases hlt:k<n
  ·obtain ⟨b,off,rfl,hb1,hc⟩:=Sts.all (Vec.ext HX.out HE.out) (by omega)
   have HC:=Za hc
   obtain ⟨c1,c2,c3,c4⟩:=hc k hlt
   have hok:=zcv HO.out (k:=k) (by rw [HL.out];omega)
   obtain ⟨s,hs⟩:∃s,l.getD k st0=s:=⟨_,rfl⟩
   rw [hs] at c1 c2 c3 c4 hok
   have HS:=Za hs
   clear hs hc
   obtain ⟨sk,sp,sa,sb⟩:=s
   simp only at c1 c2 c3 c4
   have q0:(0:Int)≤(k:Int):=by omega
   have q1:(k:Int)<(n:Int):=by omega
   obtain ⟨T,hT⟩:∃T,wordT ⟨sk,sp,sa,sb⟩=T:=⟨_,rfl⟩
   have HWC:=Za (show ∀w',Glob w'→Calls Tryz.prog 182 #[.agg #[.int .u8 sk,.bool sp,.int .i64 sa,.int .i64 sb]] w' fun e w''=>e = .returned (.string ⟨T.toArray⟩)∧Ext w' w'' from fun w' hg=>by
    have h9:=zlC ⟨sk,sp,sa,sb⟩ hok w' hg
    rw [hT] at h9
    exact h9)
   have tl:T.length≤100:=by
    have h9:=zcs (x:=(⟨sk,sp,sa,sb⟩,1)) hok
    rw [←hT]
    simpa [wordG] using h9
   have HTG1:=Za (show wordG (⟨sk,sp,sa,sb⟩,1)=T by rw [←hT];simp [wordG])
   have HTT:=Za hT
   have hn9:(n:Int)≤200:=by omega
   clear hT
   go_wp2_with fail
   go_loopw [5] (fun q wi=>∃(m:Nat),q = .int .i64 m∧1≤m∧k+m≤n∧Hid (m=1∨sk=1)∧Hid (∀t,t<m→l.getD (k+t) st0=⟨sk,sp,sa,sb⟩)∧Hid (Ext wa wi)) (fun q _=>n-k-(intOf q).toNat)
   case atStart=>exact ⟨1,rfl,Zf _,by omega,Za (.inl rfl),Za (fun t ht=>(by obtain rfl:t=0:=(by omega);exact HS.out)),Za zx⟩
   case round =>
    obtain ⟨m,rfl,hm1,hm2,hm3,HA,HE2⟩:=hrel
    have HE3:=Za (HE.out.trans HE2.out)
    have HEX:=Za (fun (w':World) (h:Ext wr w')=>(⟨HE3.out.trans h,HE2.out.trans h⟩:Ext w w'∧Ext wa w'))
    have d1:=(Zm (p:=⟨b,off+k*4,none⟩) HE2.out hb1).trans c1
    have d2:=(Zm (p:=⟨b,off+k*4+1,none⟩) HE2.out hb1).trans c2
    have d3:=(Zm (p:=⟨b,off+k*4+2,none⟩) HE2.out hb1).trans c3
    have d4:=(Zm (p:=⟨b,off+k*4+3,none⟩) HE2.out hb1).trans c4
    by_cases hk1:sk=1
    ·by_cases hkm:k+m<n
     ·obtain ⟨e1,e2,e3,e4⟩:=HC.out (k+m) hkm
      replace e1:=(Zm (p:=⟨b,_,none⟩) HE2.out hb1).trans e1
      replace e2:=(Zm (p:=⟨b,_,none⟩) HE2.out hb1).trans e2
      replace e3:=(Zm (p:=⟨b,_,none⟩) HE2.out hb1).trans e3
      replace e4:=(Zm (p:=⟨b,_,none⟩) HE2.out hb1).trans e4
      have i1:=Zp ((k:Int)+(m:Int)) (by omega)
      have q2:(0:Int)≤(k:Int)+(m:Int):=by omega
      have q3:(k:Int)+(m:Int)<(n:Int):=by omega
      by_cases hxy:l.getD (k+m) st0=⟨sk,sp,sa,sb⟩
      ·rw [hxy] at e1 e2 e3 e4
       simp only at e1 e2 e3 e4
       have HA2:=Za (show ∀t,t<m+1→l.getD (k+t) st0=⟨sk,sp,sa,sb⟩ from fun t ht=>by
        by_cases e:t=m
        ·subst e;exact hxy
        ·exact HA.out t (by omega))
       clear hxy
       subst hk1
       go_wp2_with fail
       go_quiet (fail)
       go_wp2
       go_roundw
       case rel=>exact ⟨m+1,by go_num,by omega,by omega,Za (by first | exact .inr rfl | exact .inr trivial),HA2,Za zx⟩
       case measure=>simp [intOf];omega
      ·generalize hy:l.getD (k+m) st0=y at *
       obtain ⟨y1,y2,y3,y4⟩:=y
       simp only at e1 e2 e3 e4
       have hne:=zcn hxy
       have HNE:=Za hxy
       clear hxy
       subst hk1
       go_wp2_with fail
       go_quiet (fail)
       go_wp2_with fail
       have HQ:=Za (show grp (l.drop k)=(⟨1,sp,sa,sb⟩,m)::grp (l.drop (k+m)) by
        have h9:=zbv m (l.drop k) ⟨1,sp,sa,sb⟩ hm1 (by rw [ZD,HL.out];omega) (fun t ht=>by rw [←HA.out t ht];simp [List.getD_eq_getElem?_getD]) (.inr rfl) (.inr (.inr (by have h8:(l.drop k).getD m st0=⟨y1,y2,y3,y4⟩:=(by rw [←hy];simp [List.getD_eq_getElem?_getD]);rw [h8];exact HNE.out)))
        rw [h9,List.drop_drop])
       by_cases hm:m=1
       ·subst hm
        go_wp2_with (first
         | (go_at_call 182;(((with_reducible refine (HWC.out _ (HG.out.ext (HE3.out.trans zx))).mono ?_);rintro e w5 ⟨rfl,hq5⟩;have HE5:=Za (HEX.out _ (Zb zx hq5)).1;have HX5:=Za (HEX.out _ (Zb zx hq5)).2;clear hq5)))
         | (at_builtin;(refine zab (S:=shStr) (w:=w) (m:=1) (xs:=[T]) 67 9 (.string ⟨#[]⟩) 16 (by rfl) (by rfl) Tryz.underlying67 zbx (by rfl) (by omega) (by rfl) (by rfl) (OwnV.ext HV.out (HX5.out.trans zx)) (HE5.out.trans zx) (Vec.lit2 (by simp) rfl rfl) (by omega) ?_;intro v' w6 hown6 hext6 hgr6)))
        have HN:=Za hown6
        have HF:=Za (show (ws++[T])++(grp (l.drop (k+1))).map wordG=(grp l).map wordG by
         rw [←HT.out,HQ.out,←HTG1.out]
         simp)
        clear hown6 hgr6
        go_roundw
        case rel=>exact ⟨v',k+1,j+1,ws++[T],rfl,by go_num,by omega,by omega,HN,hext6,HF⟩
        case measure=>simp [intOf];omega
       ·have hm9:(1:Int)<(m:Int):=by omega
        obtain ⟨D,hD⟩:∃D,decD m=D:=⟨_,rfl⟩
        obtain ⟨G,hG⟩:∃G,T++D=G:=⟨_,rfl⟩
        have HIC:=Za (show ∀w',Glob w'→Calls Tryz.prog 37 #[.int .i64 (m:Int)] w' fun e w''=>e = .returned (.string ⟨D.toArray⟩)∧Ext w' w'' from fun w' hg=>by
         have h9:=zaf (m:Int) (by omega) (by omega) w' hg
         rw [Int.toNat_natCast,hD] at h9
         exact h9)
        have hcat:(⟨T.toArray⟩++⟨D.toArray⟩:ByteArray)=⟨G.toArray⟩:=by rw [zag,hG]
        have hTG:wordG (⟨1,sp,sa,sb⟩,m)=G:=by rw [wordG,if_pos (by simp only;omega),HTT.out,hD,hG]
        have HTG:=Za hTG
        have dl:D.length≤20:=by rw [←hD];exact zae m
        clear hD hG hTG
        go_wp2_with (first
         | (go_at_call 182;(((with_reducible refine (HWC.out _ (HG.out.ext (HE3.out.trans zx))).mono ?_);rintro e w5 ⟨rfl,hq5⟩;have HE5:=Za (HEX.out _ (Zb zx hq5)).1;have HX5:=Za (HEX.out _ (Zb zx hq5)).2;clear hq5)))
         | (go_at_call 37;(((with_reducible refine (HIC.out _ (HG.out.ext (HE5.out.trans zx))).mono ?_);rintro e w7 ⟨rfl,hq7⟩;have HE7:=Za (HE5.out.trans (Zb (show Ext w5 _ from zx) hq7));have HX7:=Za (HX5.out.trans (Zb (show Ext w5 _ from zx) hq7));clear hq7)))
         | (at_builtin;(refine zab (S:=shStr) (w:=w) (m:=1) (xs:=[G]) 67 9 (.string ⟨#[]⟩) 16 (by rfl) (by rfl) Tryz.underlying67 zbx (by rfl) (by omega) (by rfl) (by rfl) (OwnV.ext HV.out (HX7.out.trans zx)) (HE7.out.trans zx) (Vec.lit2 (by simp) rfl rfl) (by omega) ?_;intro v' w6 hown6 hext6 hgr6)))
        have HN:=Za hown6
        have HF:=Za (show (ws++[G])++(grp (l.drop (k+m))).map wordG=(grp l).map wordG by
         rw [←HT.out,HQ.out,ZY,HTG.out]
         simp)
        clear hown6 hgr6
        go_roundw
        case rel=>exact ⟨v',k+m,j+1,ws++[G],rfl,by go_num,by omega,by omega,HN,hext6,HF⟩
        case measure=>simp [intOf];omega
     ·have i1:=Zp ((k:Int)+(m:Int)) (by omega)
      have q3:decide ((k:Int)+(m:Int)<(n:Int))=false:=by simp;omega
      subst hk1
      go_wp2_with fail
      go_quiet (fail)
      go_wp2_with fail
      have HQ:=Za (show grp (l.drop k)=(⟨1,sp,sa,sb⟩,m)::grp (l.drop (k+m)) by
       have h9:=zbv m (l.drop k) ⟨1,sp,sa,sb⟩ hm1 (by rw [ZD,HL.out];omega) (fun t ht=>by rw [←HA.out t ht];simp [List.getD_eq_getElem?_getD]) (.inr rfl) (.inr (.inl (by rw [ZD,HL.out];omega)))
       rw [h9,List.drop_drop])
      by_cases hm:m=1
      ·subst hm
       go_wp2_with (first
        | (go_at_call 182;(((with_reducible refine (HWC.out _ (HG.out.ext (HE3.out.trans zx))).mono ?_);rintro e w5 ⟨rfl,hq5⟩;have HE5:=Za (HEX.out _ (Zb zx hq5)).1;have HX5:=Za (HEX.out _ (Zb zx hq5)).2;clear hq5)))
        | (at_builtin;(refine zab (S:=shStr) (w:=w) (m:=1) (xs:=[T]) 67 9 (.string ⟨#[]⟩) 16 (by rfl) (by rfl) Tryz.underlying67 zbx (by rfl) (by omega) (by rfl) (by rfl) (OwnV.ext HV.out (HX5.out.trans zx)) (HE5.out.trans zx) (Vec.lit2 (by simp) rfl rfl) (by omega) ?_;intro v' w6 hown6 hext6 hgr6)))
       have HN:=Za hown6
       have HF:=Za (show (ws++[T])++(grp (l.drop (k+1))).map wordG=(grp l).map wordG by
        rw [←HT.out,HQ.out,←HTG1.out]
        simp)
       clear hown6 hgr6
       go_roundw
       case rel=>exact ⟨v',k+1,j+1,ws++[T],rfl,by go_num,by omega,by omega,HN,hext6,HF⟩
       case measure=>simp [intOf];omega
      ·have hm9:(1:Int)<(m:Int):=by omega
       obtain ⟨D,hD⟩:∃D,decD m=D:=⟨_,rfl⟩
       obtain ⟨G,hG⟩:∃G,T++D=G:=⟨_,rfl⟩
       have HIC:=Za (show ∀w',Glob w'→Calls Tryz.prog 37 #[.int .i64 (m:Int)] w' fun e w''=>e = .returned (.string ⟨D.toArray⟩)∧Ext w' w'' from fun w' hg=>by
        have h9:=zaf (m:Int) (by omega) (by omega) w' hg
        rw [Int.toNat_natCast,hD] at h9
        exact h9)
       have hcat:(⟨T.toArray⟩++⟨D.toArray⟩:ByteArray)=⟨G.toArray⟩:=by rw [zag,hG]
       have hTG:wordG (⟨1,sp,sa,sb⟩,m)=G:=by rw [wordG,if_pos (by simp only;omega),HTT.out,hD,hG]
       have HTG:=Za hTG
       have dl:D.length≤20:=by rw [←hD];exact zae m
       clear hD hG hTG
       go_wp2_with (first
        | (go_at_call 182;(((with_reducible refine (HWC.out _ (HG.out.ext (HE3.out.trans zx))).mono ?_);rintro e w5 ⟨rfl,hq5⟩;have HE5:=Za (HEX.out _ (Zb zx hq5)).1;have HX5:=Za (HEX.out _ (Zb zx hq5)).2;clear hq5)))
        | (go_at_call 37;(((with_reducible refine (HIC.out _ (HG.out.ext (HE5.out.trans zx))).mono ?_);rintro e w7 ⟨rfl,hq7⟩;have HE7:=Za (HE5.out.trans (Zb (show Ext w5 _ from zx) hq7));have HX7:=Za (HX5.out.trans (Zb (show Ext w5 _ from zx) hq7));clear hq7)))
        | (at_builtin;(refine zab (S:=shStr) (w:=w) (m:=1) (xs:=[G]) 67 9 (.string ⟨#[]⟩) 16 (by rfl) (by rfl) Tryz.underlying67 zbx (by rfl) (by omega) (by rfl) (by rfl) (OwnV.ext HV.out (HX7.out.trans zx)) (HE7.out.trans zx) (Vec.lit2 (by simp) rfl rfl) (by omega) ?_;intro v' w6 hown6 hext6 hgr6)))
       have HN:=Za hown6
       have HF:=Za (show (ws++[G])++(grp (l.drop (k+m))).map wordG=(grp l).map wordG by
        rw [←HT.out,HQ.out,ZY,HTG.out]
        simp)
       clear hown6 hgr6
       go_roundw
       case rel=>exact ⟨v',k+m,j+1,ws++[G],rfl,by go_num,by omega,by omega,HN,hext6,HF⟩
       case measure=>simp [intOf];omega
    ·have hk2:(sk==1)=false:=by simpa using hk1
     have HK:=Za hk1
     obtain rfl:m=1:=by rcases hm3.out with h | h <;> first | exact h | exact absurd h hk1
     clear hk1
     go_wp2_with fail
     go_quiet (fail)
     go_wp2_with fail
     have HQ:=Za (show grp (l.drop k)=(⟨sk,sp,sa,sb⟩,1)::grp (l.drop (k+1)) by
      have h9:=zbv 1 (l.drop k) ⟨sk,sp,sa,sb⟩ hm1 (by rw [ZD,HL.out];omega) (fun t ht=>by rw [←HA.out t ht];simp [List.getD_eq_getElem?_getD]) (.inl rfl) (.inl HK.out)
      rw [h9,List.drop_drop])
     go_wp2_with (first
      | (go_at_call 182;(((with_reducible refine (HWC.out _ (HG.out.ext (HE3.out.trans zx))).mono ?_);rintro e w5 ⟨rfl,hq5⟩;have HE5:=Za (HEX.out _ (Zb zx hq5)).1;have HX5:=Za (HEX.out _ (Zb zx hq5)).2;clear hq5)))
      | (at_builtin;(refine zab (S:=shStr) (w:=w) (m:=1) (xs:=[T]) 67 9 (.string ⟨#[]⟩) 16 (by rfl) (by rfl) Tryz.underlying67 zbx (by rfl) (by omega) (by rfl) (by rfl) (OwnV.ext HV.out (HX5.out.trans zx)) (HE5.out.trans zx) (Vec.lit2 (by simp) rfl rfl) (by omega) ?_;intro v' w6 hown6 hext6 hgr6)))
     have HN:=Za hown6
     have HF:=Za (show (ws++[T])++(grp (l.drop (k+1))).map wordG=(grp l).map wordG by
      rw [←HT.out,HQ.out,←HTG1.out]
      simp)
     clear hown6 hgr6
     go_roundw
     case rel=>exact ⟨v',k+1,j+1,ws++[T],rfl,by go_num,by omega,by omega,HN,hext6,HF⟩
     case measure=>simp [intOf];omega
  ·obtain rfl:k=n:=by omega
   have HV0:=Za (show ws=(grp l).map wordG by
    have h9:=HT.out
    rw [Z5 (Nat.le_of_eq HL.out)] at h9
    simpa [grp] using h9)
   obtain ⟨A9,c9,rfl,hv9, -⟩:=zac HV.out
   go_wp2_with (go_at_call 183;((with_reducible refine (zkM w.heap.size j c9 A9 ws 32 9 _ (OwnV.ext HV.out zx) (by rw [HV0.out];exact HW.out) (by omega)).mono ?_);rintro e w8 ⟨rfl,hq8⟩))
   go_ret
   exact ⟨by rw [HV0.out];rfl,zx⟩
end Go.Proofs.YtkneghkbgingdaaGreatDoor
