/- The finder of the shortest list: the walk of list. -/
import Derived.Test.YtkneghkbgingdaaGreatDoorT16
set_option maxHeartbeats 16000000
namespace Go.Proofs.YtkneghkbgingdaaGreatDoor
set_option maxRecDepth 100000
open Go.RowKit Go.ChangeShapes Go.WideShapes Go.Joins
theorem zmf (g n c:Nat) (A:Option Addr) (l:List St) (hn:n<=60) (hln:l.length=n) (hby:Bytes l) (hne:∀b off,A=some ⟨b,off,none⟩->b≠g):∀(M a m:Nat) (tab:Nat->Nat->Chc) (w:World),m<=M->1<=m->a+m<=n->Vec shSt w A n l->FAt w g n c A tab->(∀N,TabOk l tab N)->∀(ai mi:Int),ai=(a:Int)->mi=(m:Int) ->
  Calls Tryz.prog 138 #[.pointer (some ⟨g,0,none⟩),.int .i64 ai,.int .i64 mi] w (ListR l g n c A 134 (mkT M (sub l a m)) w):=by
 intro M
 induction M with
 | zero=>intro a m tab w h0 h1;omega
 | succ M ih =>
  intro a m tab w hM h1 aS hv ht aC ai mi aR aU
  subst aR
  subst aU
  have IH:=Za ih
  have HV:=Za hv
  have HT:=Za ht
  have ax:=Za aC
  have ha:a<60:=by omega
  have hm:m<=60:=by omega
  have q0:(0:Int)<=(a:Int):=by omega
  have q1:(a:Int)<60:=by omega
  have q2:(0:Int)<=(m:Int):=by omega
  have q3:(m:Int)<61:=by omega
  have aV:=zbU (l:=l) (a:=a) (n:=m) (by omega) h1
  have aD:=zan (l:=l) (a:=a) (n:=m) (by omega)
  have aj:=zgu aV
  rw [aD] at aj
  obtain ⟨zt,aH,aG⟩:=zcC
  have aQ:=Za aH
  have aP:=Za aG
  clear ih hv ht aC aH aG
  go_enter Tryz.func138,Tryz.ntmps138
  go_upto_region 3 with (first
   | (go_at_call 166;((with_reducible refine (zkc g n c A l hn hln hne m a m tab _ (Zg _) h1 aS HV.out HT.out (ax.out m) _ _ rfl rfl).mono ?_);rintro e w1 ⟨tab1,rfl,hq⟩;have HQ:=Za hq;have c0:=hq.at_.tb a m 0 ha hm (by omega);have c1:=hq.at_.tb a m 1 ha hm (by omega);have c2:=hq.at_.tb a m 2 ha hm (by omega);rw [hq.it] at c0 c1 c2;rw [Nat.add_zero] at c0;have z1:=hq.at_.lt;clear hq)))
  have aa:mkT (M+1) (sub l a m)=if 0<(ch (sub l a m)).part then (mkT M ((sub l a m).take (ch (sub l a m)).part)).app (mkT M ((sub l a m).drop (ch (sub l a m)).part)) else if 0<(ch (sub l a m)).period then .cons (((sub l a m).length / (ch (sub l a m)).period:Nat):Int) st0 (mkT M ((sub l a m).take (ch (sub l a m)).period)) .nil else .cons ((sub l a m).length:Int) ((sub l a m).getD 0 st0) .nil .nil:=rfl
  obtain ⟨pt,af⟩:∃x,(ch (sub l a m)).part=x:=⟨_,rfl⟩
  obtain ⟨pd,ad⟩:∃x,(ch (sub l a m)).period=x:=⟨_,rfl⟩
  have e1:fld (ch (sub l a m)) 1=pd:=ad
  have e2:fld (ch (sub l a m)) 2=pt:=af
  rw [e1] at c1
  rw [e2] at c2
  rw [e1,e2]
  rw [af,ad,aD] at aa
  rw [af,ad] at aj
  generalize hwb:World.alloc w1 _=wb
  have aT:wb.heap.size=w1.heap.size+1:=by rw [<-hwb];simp
  have b1:wb.cell? ⟨w1.heap.size,1,none⟩=some (.int .i64 (pd:Nat)):=by rw [<-hwb];simp [go_sem]
  have b2:wb.cell? ⟨w1.heap.size,2,none⟩=some (.int .i64 (pt:Nat)):=by rw [<-hwb];simp [go_sem]
  have aq:=Za (show Ext w1 wb by rw [<-hwb];exact (Zf _).alloc _)
  clear hwb c0 c1 c2
  have hb:(pt<m/\pd<m):=by
   rcases aj with ⟨hx, -⟩ | ⟨h2,h3,h4, -⟩ | ⟨h2,h3,h4, -⟩
   ·rw [hx] at af ad
    simp only at af ad
    omega
   ·omega
   ·omega
  have hd2:0<pd->2<=pd:=by
   rcases aj with ⟨hx, -⟩ | ⟨h2,h3,h4, -⟩ | ⟨h2,h3,h4, -⟩
   ·rw [hx] at ad
    simp only at ad
    omega
   ·omega
   ·omega
  have ao:=Za (show Vec shSt wb A n l from (HV.out.far HQ.out.but hne).ext aq.out)
  have au:=Za (HQ.out.all ax.out)
  have an:=Za (HQ.out.at_.ext aq.out)
  have hgw:g<w.heap.size:=HT.out.lt
  have hw1:w.heap.size<=w1.heap.size:=HQ.out.but.size
  have ap:=Za (HQ.out.but.trans (But.of_ext aq.out _))
  clear aj af ad e1 e2
  by_cases hp0:0<pt
  ·rw [if_pos hp0,zbi (by omega),zdd (by omega)] at aa
   have aF:=zbU (l:=l) (a:=a) (n:=pt) (by omega) (by omega)
   have hx2:=zbU (l:=l) (a:=a+pt) (n:=m-pt) (by omega) (by omega)
   have k1:=zbN M (sub l a pt) aF (by rw [zan (by omega)];omega)
   have k2:=zbN M (sub l (a+pt) (m-pt)) hx2 (by rw [zan (by omega)];omega)
   rw [zan (by omega)] at k1 k2
   have ag:=Za aa
   have t1:((0:Int)<(pt:Int)):=by omega
   have i1:=Zh ((a:Int)+(pt:Int)) (by omega)
   have i2:=Zh ((m:Int)-(pt:Int)) (by omega)
   clear aa aF hx2
   have E3:=Za (show (a:Int)+(pt:Int)=((a+pt:Nat):Int) by omega)
   have E4:=Za (show (m:Int)-(pt:Int)=((m-pt:Nat):Int) by omega)
   clear b1
   go_upto_region 4 with fail
   go_region_held3 (fun w'=>w'.cell? ⟨w1.heap.size,2,none⟩=some (.int .i64 (pt:Nat))) (go_keep)
    (first
     | (go_at_call 138;(first
      | ((with_reducible refine (IH.out (a+pt) (m-pt) _ _ (by omega) (by omega) (by omega) (aO.out.ext zx) (ar.out.ext zx) av.out _ _ E3.out E4.out).mono ?_);rintro e w3 ⟨v2,tab3,rfl,az,aB,ay,aE⟩;have aJ:=Za az;have aM:=Za aB;have aw:=Za ((But.of_ext zx (some g)).trans ay:But (some g) w2 w3);have aL:=Za (show OwnT w3 w2.heap.size 134 v2 (mkT M (sub l (a+pt) (m-pt))).cnt (mkT M (sub l (a+pt) (m-pt))) from aE);have b4:=(But.cell (p:=⟨w1.heap.size,2,none⟩) aw.out (by have:=ab.out.size;show w1.heap.size<w2.heap.size;omega) (by intro e9;have e8:w1.heap.size=g:=(by simpa using e9);omega)).trans b3;clear az aB ay aE)
      | (((with_reducible refine (IH.out a pt _ _ (by omega) (by omega) (by omega) (ao.out.ext zx) (an.out.ext zx) au.out _ _ rfl rfl).mono ?_);rintro e w2 ⟨v1,tab2,rfl,ah,ak,hb2,am⟩;have ar:=Za ah;have av:=Za ak;have ab:=Za ((But.of_ext zx (some g)).trans hb2:But (some g) wb w2);have aO:=Za (ao.out.far ab.out hne);have aK:=Za (show OwnT w2 wb.heap.size 134 v1 (mkT M (sub l a pt)).cnt (mkT M (sub l a pt)) from am);have b3:=(But.cell (p:=⟨w1.heap.size,2,none⟩) ab.out (by show w1.heap.size<wb.heap.size;omega) (by intro e9;have e8:w1.heap.size=g:=(by simpa using e9);omega)).trans b2;clear ah ak hb2 am))))
     | (refine zdN (g:=g) 91 134 zt 56 (by rfl) (by rfl) Tryz.underlying91 aQ.out aP.out (by omega) (by rfl) (by rfl) aK.out aL.out ab.out aw.out (by omega) (by omega) ?_;intro v' w4 al ac ae;have b5:=(But.cell (p:=⟨w1.heap.size,2,none⟩) ac.out (by show w1.heap.size<wb.heap.size;omega) (by intro e9;have e8:w1.heap.size=g:=(by simpa using e9);omega)).trans b2))
   go_wp2
   go_ret
   rw [ag.out]
   exact ⟨_,tab3,rfl,ae.out _ _ _ _ aJ.out,aM.out,ap.out.trans ac.out,by rw [zbw];exact al.low (by omega)⟩
  have t1:¬((0:Int)<(pt:Int)):=by omega
  rw [if_neg hp0] at aa
  by_cases hp1:0<pd
  ·rw [if_pos hp1,zbi (by omega)] at aa
   have ag:=Za aa
   have t2:((0:Int)<(pd:Int)):=by omega
   have k1:=zbN M (sub l a pd) (zbU (l:=l) (by omega) (by omega)) (by rw [zan (by omega)];omega)
   rw [zan (by omega)] at k1
   have tz:¬pd=0:=by omega
   obtain ⟨q,hq⟩:∃q,m / pd=q:=⟨_,rfl⟩
   have td2:(m:Int) / (pd:Int)=(q:Int):=by rw [<-hq];rfl
   have td:(m:Int).tdiv (pd:Int)=(q:Int):=by rw [Int.tdiv_eq_ediv_of_nonneg (by omega)];exact td2
   have hqm:q<=m:=by rw [<-hq];exact Nat.div_le_self _ _
   have tw:=Zh (q:Int) (by omega)
   have aN:=Za hq
   clear hq
   clear aa
   go_upto_region 6 with fail
   go_region_held3 (fun w'=>w'.cell? ⟨w1.heap.size,1,none⟩=some (.int .i64 (pd:Nat))) (go_keep)
    (first
     | (go_at_call 138;((with_reducible refine (IH.out a pd _ _ (by omega) (by omega) (by omega) (ao.out.ext zx) (an.out.ext zx) au.out _ _ rfl rfl).mono ?_);rintro e w2 ⟨v1,tab2,rfl,ah,ak,hb2,am⟩;obtain ⟨A2,c2,rfl,aA⟩:=zaA am (by omega);have ar:=Za ah;have av:=Za ak;have ab:=Za ((But.of_ext zx (some g)).trans hb2:But (some g) wb w2);have HK2:=Za (show TvK w2 (fun b=>wb.heap.size<=b) A2 (mkT M (sub l a pd)).cnt (mkT M (sub l a pd)) from aA);have b3:=(But.cell (p:=⟨w1.heap.size,1,none⟩) ab.out (by show w1.heap.size<wb.heap.size;omega) (by intro e9;have e8:w1.heap.size=g:=(by simpa using e9);omega)).trans b1;clear ah ak hb2 am aA)))
   all_goals (go_wp2;go_ret;rw [ag.out,aN.out];exact ⟨_,tab2,rfl,ar.out.ext ((Zf _).alloc _),av.out,(ap.out.trans ab.out).trans (But.of_ext ((Zf _).alloc _) _),zfF w2 w.heap.size 134 (q:Int) 0 false 0 0 (by have:=ab.out.size;omega) (by omega) (HK2.out.mono fun b _ hb=>by omega)⟩)
  have t2:¬((0:Int)<(pd:Int)):=by omega
  rw [if_neg hp1,zeU (by omega),Nat.add_zero] at aa
  have ag:=Za aa
  have aI:=Za (hby a (by omega))
  clear aa hby
  obtain ⟨b,off,rfl,hb,hc⟩:=Sts.all ao.out (by omega)
  obtain ⟨k1,k2,k3,k4⟩:=hc a (by omega)
  have g0:=an.out.hd
  have t3:(a:Int)<(n:Int):=by omega
  generalize hs:l.getD a st0=s at *
  obtain ⟨s1,s2,s3,s4⟩:=s
  simp only at k1 k2 k3 k4
  have n1:((a:Int)).toNat=a:=by omega
  go_wp2_with fail
  go_ret
  rw [ag.out]
  exact ⟨_,tab1,rfl,an.out.ext ((Zf _).alloc _),au.out,ap.out.trans (But.of_ext ((Zf _).alloc _) _),by
   rw [<-aT]
   exact zfF wb w.heap.size 134 (m:Int) s1 s2 s3 s4 (by omega) aI.out (TvK.none_ _ _ _)⟩
end Go.Proofs.YtkneghkbgingdaaGreatDoor
/- Find of the shortest list. -/
namespace Go.Proofs.YtkneghkbgingdaaGreatDoor
set_option maxRecDepth 100000
open Go.RowKit Go.ChangeShapes Go.WideShapes Go.Joins
def findE (l:List St):Int:=if 60<l.length then 4 else if allB l=true then 0 else 8
def findL (l:List St):Tms:=if findE l=0 then findT l else .nil
def FindR (l:List St) (w:World) (e:Ending) (w':World):Prop :=
 ∃(A:Option Addr) (c:Nat),e = .returned (.tuple #[.slice A (findL l).cnt c,.int .i64 (findE l)])/\Ext w w'/\TvK w' (fun b=>w.heap.size<=b) A (findL l).cnt (findL l)
theorem FindR.none_ {l:List St} {w w':World} {x:Int} (hx:findE l=x) (h0:x≠0) (h:Ext w w'):FindR l w (.returned (.tuple #[.slice none 0 0,.int .i64 x])) w':=by
 have h1:findL l = .nil:=by rw [findL,if_neg (by rw [hx];exact h0)]
 exact ⟨none,0,by rw [h1,hx];rfl,h,by rw [h1];exact TvK.none_ _ _ _⟩
theorem zlV (n c:Nat) (A:Option Addr) (l:List St) (w:World) (hl:Vec shSt w A n l) (hby:Bytes l) (hn:n<=maxLen) :
  Calls Tryz.prog 103 #[.slice A n c] w (FindR l w):=by
 have HX:=Za hl
 have aa:=hl.1
 unfold maxLen at hn
 by_cases hn60:60<n
 ·have q1:((60:Int)<(n:Int)):=by omega
  have HE:=Za (show findE l=4 by rw [findE,if_pos (by omega)])
  clear hl
  go_enter Tryz.func103,Tryz.ntmps103
  go_wp2_with fail
  go_ret2
  exact FindR.none_ HE.out (by decide) zx
 have q1:¬((60:Int)<(n:Int)):=by omega
 clear hl
 go_enter Tryz.func103,Tryz.ntmps103
 go_wp2_with fail
 go_loopw [12] (fun i wr=>∃k:Nat,i = .int .i64 k/\k<=n/\Hid (∀j,j<k->okSt (l.getD j st0)=true)/\Hid (Ext w wr)) (fun i _=>n-(intOf i).toNat)
 case atStart=>exact ⟨0,rfl,by omega,Za (fun j hj=>absurd hj (by omega)),Za zx⟩
 case round =>
  obtain ⟨k,rfl,hk,HA,HE⟩:=hrel
  have hx:=HE.out
  by_cases hlt:k<n
  ·obtain ⟨b,off,rfl,hb,hc⟩:=Sts.all (HX.out.ext hx) (by omega)
   obtain ⟨c1,c2,c3,c4⟩:=hc k hlt
   have ab:=hby k (by omega)
   have q0:(0:Int)<=(k:Int):=by omega
   have q2:(k:Int)<(n:Int):=by omega
   have ad:=Za (show okSt (l.getD k st0)=false->findE l=8 from fun h=>by rw [findE,if_neg (by omega),if_neg (by rw [zc2 (n:=n) (k:=k) aa hlt h];simp)])
   have ac:=Za (show okSt (l.getD k st0)=true->∀j,j<k+1->okSt (l.getD j st0)=true from fun h j hj=>by
    by_cases e:j=k
    ·subst e;exact h
    ·exact HA.out j (by omega))
   clear hc
   generalize hs:l.getD k st0=s at *
   obtain ⟨s1,s2,s3,s4⟩:=s
   simp only at c1 c2 c3 c4 ab
   clear hs
   cases hok:okSt ⟨s1,s2,s3,s4⟩
   case false =>
    have HQ:=Za (show okE ⟨s1,s2,s3,s4⟩=8 by rw [okE,hok];rfl)
    have HF:=Za (ad.out hok)
    clear ad ac hok
    go_wp2_with (first
     | (go_at_call 137;((with_reducible refine (za0 s1 s2 s3 s4 ab.1 ab.2 _).mono ?_);rintro e w2 ⟨rfl,hq⟩;rw [HQ.out])))
    go_ret2
    exact FindR.none_ HF.out (by decide) zx
   case true =>
    have HQ:=Za (show okE ⟨s1,s2,s3,s4⟩=0 by rw [okE,hok];rfl)
    have ak:=Za (ac.out hok)
    clear ad ac hok
    go_wp2_with (first
     | (go_at_call 137;((with_reducible refine (za0 s1 s2 s3 s4 ab.1 ab.2 _).mono ?_);rintro e w2 ⟨rfl,hq⟩;rw [HQ.out])))
    go_roundw
    case rel=>exact ⟨k+1,by go_num,by omega,ak,Za zx⟩
    case measure=>simp [intOf];omega
  ·obtain rfl:k=n:=by omega
   have af:=zem aa HA.out
   have HB:=Za af
   by_cases hn0:k=0
   ·subst hn0
    go_wp2_with fail
    go_ret2
    have e1:l=[]:=ZT aa
    subst e1
    exact ⟨none,0,rfl,HE.out,TvK.none_ _ _ _⟩
   have ai:¬((k:Int)=0):=by omega
   have ap:((k:Int)==0)=false:=by rw [Ze];exact ai
   obtain ⟨Z,hZ,ae,ag⟩:=zhd wr
   have hZe:¬(Z=#[]):=by rintro rfl;simp at ae
   have HF:=Za (FAt.new_ wr (t:=193) A k c ae ag)
   have am:=Za (show ∀b off,A=some ⟨b,off,none⟩->b≠wr.heap.size from fun b off e=>by
    obtain ⟨b',off',e',hb,_⟩:=HX.out.2 (by omega)
    rw [e] at e'
    cases e'
    have:=Zl hx
    omega)
   have HV:=Za (HX.out.ext (hx.trans ((Zf wr).alloc (Obj.cells (Z.setIfInBounds 0 (Value.slice A k c)) 193))))
   have HW:=Za (show Ext w (wr.alloc (Obj.cells (Z.setIfInBounds 0 (Value.slice A k c)) 193)) from hx.trans ((Zf _).alloc _))
   have hsz:(wr.alloc (Obj.cells (Z.setIfInBounds 0 (Value.slice A k c)) 193)).heap.size=wr.heap.size+1:=by simp
   clear ae ag
   have an:=Za (show (0:Int)=((0:Nat):Int) from rfl)
   go_upto_region 12 with (fail)
   generalize hwf:wr.alloc (Obj.cells (Z.setIfInBounds 0 (Value.slice A k c)) 193)=wf at *
   clear hZ hwf ai ap
   have hcnt:=zbN k l (by rintro rfl;simp at aa;omega) (by omega)
   go_wp2_with (first
    | (go_at_call 138;((with_reducible refine (zmf wr.heap.size k c A l (by omega) aa hby am.out k 0 k _ _ (Zg _) (by omega) (by omega) HV.out HF.out (TabOk.empty l) (0:Int) (k:Int) an.out rfl).mono ?_);rw [show sub l 0 k=l by rw [<-aa];exact zli l];rintro e w2 ⟨v1,tab2,rfl,ao,aq,hb2,aj⟩;obtain ⟨A2,c2,rfl,ah⟩:=zaA aj (by omega);have al:=Za hb2;have HK2:=Za ah;clear ao aq hb2 aj ah)))
   go_ret2
   have hE:findE l=0:=by rw [findE,if_neg (by omega),if_pos HB.out]
   have hL:findL l=mkT k l:=by rw [findL,if_pos hE,findT,if_neg (by rintro rfl;simp at aa;omega),aa]
   have ar:=Zl hx
   refine ⟨A2,c2,by rw [hE,hL];rfl,?_,by rw [hL];exact HK2.out.mono fun b _ hb=>by omega⟩
   exact Below.trans HW.out (al.out.below (by omega) (fun k h=>by cases h;exact ar))
end Go.Proofs.YtkneghkbgingdaaGreatDoor
/- Terms of a row,put together from the left. -/
namespace Go.Proofs.YtkneghkbgingdaaGreatDoor
set_option maxRecDepth 100000
open Go.RowKit Go.ChangeShapes Go.WideShapes Go.Joins
theorem zdq {x:St} {a b:Tms} (h:RunI a) (h0:a ≠ .nil):consR x (a.app b)=(consR x a).app b:=by
 rcases zb5 h with rfl | ⟨n,c,r,rfl, -, -⟩
 ·exact absurd rfl h0
 ·by_cases e:x=c
  ·subst e
   simp [consR,Tms.app]
  ·simp [consR,Tms.app,e]
theorem zk2:∀ {a b:Tms},RunI (a.app b)->RunI a:=by
 intro a
 induction a with
 | nil=>intro b _;trivial
 | cons n c g r _ ih =>
  intro b h
  rw [Tms.app] at h
  rcases zb5 h with e | ⟨n',c',r',e,h1,h2⟩
  ·cases e
  ·cases e
   exact ⟨h1,ih h2⟩
theorem zf1 (d:St):∀l:List St,∃(t0:Tms) (N:Nat),1<=N/\N<=l.length+1/\runsT (l++[d])=t0.app (.cons N d .nil .nil)/\runsT (l++[d]++[d])=t0.app (.cons ((N:Int)+1) d .nil .nil) /\
  ∀c,c≠d->runsT (l++[d]++[c])=(runsT (l++[d])).app (.cons 1 c .nil .nil):=by
 intro l
 induction l with
 | nil =>
  refine ⟨.nil,1,by omega,by simp,rfl,by simp [runsT,consR,Tms.app],fun c hc=>?_⟩
  have ab:¬d=c:=fun e=>hc e.symm
  simp [runsT,consR,Tms.app,ab]
 | cons x l ih =>
  obtain ⟨t0,N,h1,h2,h3,h4,h5⟩:=ih
  have hR:RunI (runsT (l++[d])):=(zcq _).1
  have ac:runsT (l++[d]) ≠ .nil:=by
   rw [h3]
   intro e
   have:=congrArg Tms.cnt e
   rw [zbw] at this
   simp [Tms.cnt] at this
  have e5:∀c,c≠d->runsT (x::l++[d]++[c])=(runsT (x::l++[d])).app (.cons 1 c .nil .nil):=fun c hc=>by
   show consR x (runsT (l++[d]++[c]))=(consR x (runsT (l++[d]))).app _
   rw [h5 c hc,zdq hR ac]
  by_cases h0:t0 = .nil
  ·subst h0
   simp only [Tms.app] at h3 h4
   by_cases e:x=d
   ·refine ⟨.nil,N+1,by omega,by simp only [Zk];omega,?_,?_,e5⟩
    ·show consR x (runsT (l++[d]))=_
     rw [h3];simp [consR,e,Tms.app]
    ·show consR x (runsT (l++[d]++[d]))=_
     rw [h4];simp [consR,e,Tms.app]
   ·refine ⟨.cons 1 x .nil .nil,N,h1,by simp only [Zk];omega,?_,?_,e5⟩
    ·show consR x (runsT (l++[d]))=_
     rw [h3];simp [consR,e,Tms.app]
    ·show consR x (runsT (l++[d]++[d]))=_
     rw [h4];simp [consR,e,Tms.app]
  ·have aa:RunI t0:=zk2 (b := .cons N d .nil .nil) (by rw [<-h3];exact hR)
   refine ⟨consR x t0,N,h1,by simp only [Zk];omega,?_,?_,e5⟩
   ·show consR x (runsT (l++[d]))=_
    rw [h3,zdq aa h0]
   ·show consR x (runsT (l++[d]++[d]))=_
    rw [h4,zdq aa h0]
theorem zjh {l:List St} {i:Nat} (h:i<l.length):l.take (i+1)=l.take i++[l.getD i st0]:=by
 rw [List.take_add_one,Zd h,Zc,Zd h]
 rfl
theorem zk6 {l:List St} {i:Nat} (h0:0<i) (h:i<l.length) (he:l.getD i st0=l.getD (i-1) st0):∃(t0:Tms) (N:Nat),1<=N/\N<=i/\runsT (l.take i)=t0.app (.cons N (l.getD (i-1) st0) .nil .nil)/\runsT (l.take (i+1))=t0.app (.cons ((N:Int)+1) (l.getD (i-1) st0) .nil .nil):=by
 obtain ⟨j,rfl⟩:∃j,i=j+1:=⟨i-1,by omega⟩
 rw [Nat.add_sub_cancel] at he ⊢
 obtain ⟨t0,N,h1,h2,h3,h4, -⟩:=zf1 (l.getD j st0) (l.take j)
 refine ⟨t0,N,h1,by rw [Zx] at h2;omega,?_,?_⟩
 ·rw [zjh (by omega),h3]
 ·rw [zjh h,he,zjh (by omega),h4]
theorem zje {l:List St} {i:Nat} (h:i<l.length) (he:i=0∨l.getD i st0≠l.getD (i-1) st0):runsT (l.take (i+1))=(runsT (l.take i)).app (.cons 1 (l.getD i st0) .nil .nil):=by
 cases i with
 | zero=>rw [zjh h];rfl
 | succ j =>
  rw [Nat.add_sub_cancel] at he
  obtain ⟨t0,N,h1,h2,h3,h4,h5⟩:=zf1 (l.getD j st0) (l.take j)
  rw [zjh h,zjh (by omega)]
  exact h5 _ (he.resolve_left (by omega))
theorem zmR {l:List St}:(runsT l).cnt<=l.length:=by
 have h1:=zap (runsT l)
 have h2:=(zcq l).2.2.1
 omega
theorem zg1 {l:List St} {i j:Nat} (hij:i<j) (hj:j<=l.length) (hs:∀p,i<=p->p<j->l.getD p st0=l.getD i st0) (he:j=l.length∨l.getD j st0≠l.getD i st0) :
  runsT (l.drop i) = .cons ((j:Int)-(i:Int)) (l.getD i st0) .nil (runsT (l.drop j)):=by
 obtain ⟨n,hn⟩:∃n,j=i+(n+1):=⟨j-i-1,by omega⟩
 have e:l.drop i=List.replicate (n+1) (l.getD i st0)++l.drop j:=by
  apply List.ext_getElem?
  intro p
  rw [ZV]
  by_cases hp:p<n+1
  ·rw [ZN (by rw [ZZ];exact hp),List.getElem?_replicate,if_pos hp,Zd (by omega),<-hs (i+p) (by omega) (by omega),Zc,Zd (by omega)]
   rfl
  ·rw [ZL (by rw [ZZ];omega),ZZ,ZV]
   congr 1
   omega
 rw [e,zjd _ n (l.drop j) ?_]
 ·congr 1
  omega
 ·rw [List.head?_drop]
  rcases he with h | h
  ·rw [List.getElem?_eq_none (by omega)]
   simp
  ·by_cases hl:j<l.length
   ·rw [Zd hl]
    intro h9
    apply h
    rw [Zc,Zd hl]
    exact Z8 h9
   ·rw [List.getElem?_eq_none (by omega)]
    simp
theorem zk8 {w:World} {K:Nat->Prop}:∀ {a b:Tms} {L:List Value},RwK w K (a.app b) L->∃L1 L2,L=L1++L2/\RwK w K a L1/\RwK w K b L2:=by
 intro a
 induction a with
 | nil=>intro b L h;exact ⟨[],L,rfl,rfl,h⟩
 | cons n c g r _ ih =>
  intro b L h
  obtain ⟨A,m,cap,L',rfl,hk,hg,hr⟩:=h
  obtain ⟨L1,L2,rfl,h1,h2⟩:=ih hr
  exact ⟨_++L1,L2,by rw [ZB],⟨A,m,cap,L1,rfl,hk,hg,h1⟩,h2⟩
theorem OwnT.bump {w W0:World} {e:TypeId} {v:Value} {k:Nat} {t0:Tms} {N:Int} {c:St} (h:OwnT w W0.heap.size e v k (t0.app (.cons N c .nil .nil))) (hx:Ext W0 w) (u:Int) :
  ∃g cap,v = .slice (some ⟨g,0,none⟩) k cap/\W0.heap.size<=g/\g<w.heap.size/\k=t0.cnt+1/\w.cell? ⟨g,(k-1)*6,none⟩=some (.int .i64 N)/\w.frozen? ⟨g,(k-1)*6,none⟩=false /\
   OwnT (w.setCell ⟨g,(k-1)*6,none⟩ (.int .i64 u)) W0.heap.size e v k (t0.app (.cons u c .nil .nil))/\Ext W0 (w.setCell ⟨g,(k-1)*6,none⟩ (.int .i64 u)):=by
 obtain ⟨h1,L,h2,h3⟩:=h
 rw [zbw] at h1
 simp only [Tms.cnt] at h1
 have hk:k=t0.cnt+1:=by omega
 obtain ⟨g,cap,rfl,hg1,ac⟩:=World.ownsRow.form h2 (by omega)
 obtain ⟨L1,L2,rfl,r1,r2⟩:=zk8 h3
 have aa:L1.length=(k-1)*6:=by rw [r1.len];omega
 obtain ⟨A,n,cp,L',e1,ab,ad,hr⟩:=r2
 have e2:L'=[]:=hr
 subst e2
 rw [ZC] at e1
 subst e1
 refine ⟨g,cap,rfl,hg1,ac,hk,?_,World.ownsRow.frozenAt h2 _,⟨by rw [zbw];simp only [Tms.cnt];omega,L1++[.int .i64 u,.int .u8 c.k,.bool c.p,.int .i64 c.a,.int .i64 c.b,.slice A n cp],?_,?_⟩,Zr hx (by simpa using hg1) _⟩
 ·rw [World.ownsRow.cellAt h2 _ (by omega),ZL (by omega),aa,Nat.sub_self]
  rfl
 ·have h9:=(World.ownsRow.stored h2 ((k-1)*6) (.int .i64 u)).1
  rw [List.set_append_right _ _ (by omega),aa,Nat.sub_self] at h9
  exact h9
 ·have hc:∀b,b<w.heap.size->(W0.heap.size<=b/\some b≠(Value.slice (some ⟨g,0,none⟩) k cap).ownBlock)->(W0.heap.size<=b/\some b≠(Value.slice (some ⟨g,0,none⟩) k cap).ownBlock)/\∀o,(w.setCell ⟨g,(k-1)*6,none⟩ (.int .i64 u)).cell? ⟨b,o,none⟩=w.cell? ⟨b,o,none⟩:=fun b _ hb =>
   ⟨hb,fun o=>Zj w _ _ _ (fun e=>hb.2 (by have:=congrArg Addr.block e;simp at this;simp [Value.ownBlock,this]))⟩
  have hz:w.heap.size<=(w.setCell ⟨g,(k-1)*6,none⟩ (.int .i64 u)).heap.size:=by simp [World.setCell]
  exact (r1.keep hz hc).app ⟨A,n,cp,[],rfl,ab,ad.keep hz hc,rfl⟩
theorem OwnT.bump2 {w W0:World} {e:TypeId} {g k cap:Nat} {t0:Tms} {N:Int} {c:St} (h:OwnT w W0.heap.size e (.slice (some ⟨g,0,none⟩) k cap) k (t0.app (.cons N c .nil .nil))) (hx:Ext W0 w) (u:Int) :
  OwnT (w.setCell ⟨g,(k-1)*6,none⟩ (.int .i64 u)) W0.heap.size e (.slice (some ⟨g,0,none⟩) k cap) k (t0.app (.cons u c .nil .nil))/\Ext W0 (w.setCell ⟨g,(k-1)*6,none⟩ (.int .i64 u)):=by
 obtain ⟨g',cap',e, -, -, -, -, -,h1,h2⟩:=OwnT.bump h hx u
 cases e
 exact ⟨h1,h2⟩
theorem zaH {P:Program} {ops:Array Oper} {rest:List Oper} {o:Oper} {a:Act} {Q:Exit->Act->World->Prop} {w wx:World} (T e:TypeId) (z:Value) (bytes:Nat) {s x:Operand} {v:Value} {k:Nat} (g0:Nat) {t g:Tms} (N:Int) (c:St) {A:Option Addr} {n cap:Nat}
  (hgd:o.guard=none) (ho:o.op = .call { callee := .builtin .append,args:=#[s,x],argTypes:=#[T,T] })
  (ht:P.underlying T=some (.slice e)) (hinfo:(P.info? e).map (fun i=>(i.zero,i.size,i.bytes))=some (some z,6,bytes)) (hzs:z.cells.size=6) (hby:bytes<=1000)
  (hs:a.eval s=v) (hx:a.eval x = .slice (some ⟨g0,0,none⟩) 1 1) (hown:OwnT wx w.heap.size e v k t) (hext:Ext w wx) (hck:0<=c.k/\c.k<=255)
  (hg:TvK wx (fun b=>w.heap.size<=b/\some b≠v.ownBlock) A n g)
  (hA:∀j u,([.int .i64 N,.int .u8 c.k,.bool c.p,.int .i64 c.a,.int .i64 c.b,.slice A n cap]:List Value)[j]?=some u->wx.cell? ⟨g0,j,none⟩=some u) (hk:k+1<=1000000)
  (h:∀A' c' w1,OwnT w1 w.heap.size e (.slice A' (k+1) c') (k+1) (t.app (.cons N c g .nil))->Hid (Ext w w1)->wpList P ops Q rest (a.put o.dst (.slice A' (k+1) c')) w1):wpList P ops Q (o::rest) a wx :=
 wpList_plain hgd fun _ hK=>zbY T e z bytes g0 N c ho ht hinfo hzs hby hs hx hown hext hck hg hA hk fun v' w' h2 h3=>by
  obtain ⟨A',c',rfl, -⟩:=zaA h2 hk
  exact hK _ _ (h A' c' w' h2 h3)
def TermsR (l:List St) (w:World) (e:Ending) (w':World):Prop:=∃(A:Option Addr) (c:Nat),e = .returned (.slice A (termsT l).cnt c)/\Ext w w'/\TvK w' (fun b=>w.heap.size<=b) A (termsT l).cnt (termsT l)
theorem TermsR.of {l:List St} {w w':World} {A:Option Addr} {k c:Nat} {t:Tms} (ht:t=termsT l) (hk:TvK w' (fun b=>w.heap.size<=b) A k t) (he:Ext w w'):TermsR l w (.returned (.slice A k c)) w':=by
 subst ht
 obtain rfl:=hk.1
 exact ⟨A,c,rfl,he,hk⟩
theorem zgd {l:List St} (ha:allB l=true) (h:l.length<=60):findL l=termsT l:=by
 have h1:findE l=0:=by rw [findE,if_neg (by omega),if_pos ha]
 rw [findL,if_pos h1,termsT,if_pos h]
theorem znh {l:List St} {n:Nat} (hl:l.length=n) (ha:allB l=true) (h:n<=60):findL l=termsT l:=zgd ha (by omega)
end Go.Proofs.YtkneghkbgingdaaGreatDoor
/- The terms of a row: the program's. -/
namespace Go.Proofs.YtkneghkbgingdaaGreatDoor
set_option maxRecDepth 100000
open Go.RowKit Go.ChangeShapes Go.WideShapes Go.Joins
theorem zju (t:Tms) (N:Int) (c:St) (r:Tms):t.app (.cons N c .nil r)=(t.app (.cons N c .nil .nil)).app r:=by
 rw [zfh]
 rfl
theorem zg2 {l:List St} {t:Tms} {i j:Nat} (h:runsT l=t.app (runsT (l.drop i))) (hij:i<j) (hj:j<=l.length) (hs:∀p,i<=p->p<j->l.getD p st0=l.getD i st0) (he:j=l.length∨l.getD j st0≠l.getD i st0) :
  runsT l=(t.app (.cons ((j:Int)-(i:Int)) (l.getD i st0) .nil .nil)).app (runsT (l.drop j)):=by
 rw [h,zg1 hij hj hs he,zju]
attribute [local go_sem] zaq
theorem ziQ (n c:Nat) (A:Option Addr) (l:List St) (w:World) (hl:Vec shSt w A n l) (hby:Bytes l) (hn:n<=200) (ha:allB l=true) :
  Calls Tryz.prog 72 #[.slice A n c] w (TermsR l w):=by
 have HX:=Za hl
 have ai:=hl.1
 have HLN:=Za hl.1
 have aj:=Za hby
 by_cases hn60:n<=60
 ·have q1:(n:Int)<=60:=by omega
  have HF:=Za (znh ai ha hn60)
  have HM:=Za (show n<=maxLen by unfold maxLen;omega)
  clear hl hby ha
  go_enter Tryz.func72,Tryz.ntmps72
  go_wp2_with (first
   | (go_at_call 103;((with_reducible refine (zlV n c A l _ (HX.out.ext zx) aj.out HM.out).mono ?_);rintro e w2 ⟨A2,c2,rfl,ar,aw⟩;have ae:=Za ar;have ag:=Za aw;clear ar aw)))
  go_ret
  exact TermsR.of HF.out ag.out ae.out
 ·have q1:¬((n:Int)<=60):=by omega
  have HF:=Za (show runsT l=termsT l by rw [termsT,if_neg (by omega)])
  obtain ⟨zt,ay,ax⟩:=zcC
  have ao:=Za ay
  have an:=Za ax
  clear ay ax
  clear hl hby ha
  go_enter Tryz.func72,Tryz.ntmps72
  go_wp2_with fail
  go_loopw [5,6] (fun u i wr=>∃(V:Value) (k q:Nat) (t:Tms),V=u/\i = .int .i64 k/\k<=n/\q<=k/\Hid (runsT l=t.app (runsT (l.drop k)))/\Hid (OwnT wr w.heap.size 134 V q t/\Ext w wr)) (fun _ i _=>n-(intOf i).toNat)
  case atStart=>exact ⟨_,0,0,.nil,rfl,rfl,Zy _,Zy _,Za rfl,Za ⟨OwnT.nil _ _ _,Zf _⟩⟩
  case round =>
   obtain ⟨V,k,q,t,rfl,rfl,hk,hq,HT,HH⟩:=hrel
   obtain ⟨wa,rfl⟩:∃wa:World,wa=wr:=⟨_,rfl⟩
   have q0:(0:Int)<=(k:Int):=by omega
   by_cases hlt:k<n
   ·have q2:(k:Int)<(n:Int):=by omega
    have i5:=Zh ((k:Int)+1) (by omega)
    have ac:=Za HH.out.2
    have aq:=aj.out k (by omega)
    have ak:=Za aq
    have af:=Za (fun (w':World) (h:Ext wa w')=>(HH.out.1).ext h)
    have al:=Za (show q+1<=1000000 by omega)
    clear aq HH
    go_wp2_with fail
    go_loopw [7] (fun j wr=>∃m:Nat,j = .int .i64 m/\k<m/\m<=n/\Hid (∀p,k<=p->p<m->l.getD p st0=l.getD k st0)/\Hid (Ext wa wr)) (fun j _=>n-(intOf j).toNat)
    case atStart=>exact ⟨k+1,by go_num,by omega,by omega,Za (fun p h1 h2=>by rw [show p=k by omega]),Za zx⟩
    case round =>
     obtain ⟨m,rfl,az,hmn,HS,HE⟩:=hrel
     obtain ⟨wb,rfl⟩:∃wb:World,wb=wr:=⟨_,rfl⟩
     have m0:(0:Int)<=(m:Int):=by omega
     have i6:=Zh ((m:Int)+1) (by omega)
     have i7:=Zh ((m:Int)-(k:Int)) (by omega)
     have e7:((m:Int)-(k:Int)).toNat=m-k:=by omega
     obtain ⟨b,off,rfl,hb,hc⟩:=Sts.all (HX.out.ext (ac.out.trans HE.out)) (by omega)
     obtain ⟨h1,h2,h3,h4⟩:=hc k hlt
     by_cases hgo:m<n/\l.getD m st0=l.getD k st0
     ·obtain ⟨hm,ah⟩:=hgo
      obtain ⟨h5,h6,h7,h8⟩:=hc m hm
      have p2:(m:Int)<(n:Int):=by omega
      have HN:=Za (show ∀p,k<=p->p<m+1->l.getD p st0=l.getD k st0 from fun p h1 h2=>by
       by_cases hp:p=m
       ·rw [hp];exact ah
       ·exact HS.out p h1 (by omega))
      rw [ah] at h5 h6 h7 h8
      clear ah hc
      generalize l.getD k st0=x at *
      obtain ⟨x1,x2,x3,x4⟩:=x
      simp only at h1 h2 h3 h4 h5 h6 h7 h8
      go_wp2_with fail
      go_quiet (fail)
      go_wp2_with fail
      go_roundw
      case rel=>exact ⟨m+1,by go_num,by omega,by omega,HN,Za (HE.out.trans zx)⟩
      case measure=>simp [intOf] <;> omega
     ·have au:m=l.length∨l.getD m st0≠l.getD k st0:=by
       by_cases hm:m<n
       ·exact .inr fun h=>hgo ⟨hm,h⟩
       ·exact .inl (by omega)
      have am:=Za (zg2 HT.out az (by omega) HS.out au)
      have ad:m=n∨(m<n/\¬l.getD m st0=l.getD k st0):=by
       by_cases hm:m<n
       ·exact .inr ⟨hm,fun h=>hgo ⟨hm,h⟩⟩
       ·exact .inl (by omega)
      have HBL:=Za (show ∀b,wb.heap.size<=b->w.heap.size<=b/\some b≠V.ownBlock from fun b hb=>by
       obtain ⟨_,L,hL,_⟩:=af.out wb HE.out
       exact ⟨ZD (Zl (ac.out.trans HE.out)) hb,fun e=>by have:=(zbk hL b e.symm).2;omega⟩)
      clear au hgo HT HS
      rcases ad with rfl | ⟨hm,ad⟩
      ·have p2:¬((m:Int)<(m:Int)):=by omega
       generalize l.getD k st0=x at *
       obtain ⟨x1,x2,x3,x4⟩:=x
       simp only at h1 h2 h3 h4
       clear hc
       go_wp2_with fail
       go_quiet (fail)
       go_wp2_with (first
        | (at_builtin;(refine zaH (w:=w) 91 134 zt 56 wb.heap.size ((m:Int)-(k:Int)) ⟨x1,x2,x3,x4⟩ (t:=t) (g := .nil) (A:=none) (n:=0) (cap:=0) (by rfl) (by rfl) Tryz.underlying91 ao.out an.out (by omega) (by rfl) (by rfl) (af.out _ (HE.out.trans zx)) (ac.out.trans (HE.out.trans zx)) ak.out (TvK.none_ _ _ _) (zei _ _ _ _ _ _ _ _) al.out ?_;intro A4 c4 w4 ab aa)))
       exact ⟨⟨_,m,q+1,_,rfl,rfl,by omega,by omega,am,Za ⟨ab,aa.out⟩⟩,by simp [intOf];omega⟩
      ·have p2:(m:Int)<(n:Int):=by omega
       obtain ⟨h5,h6,h7,h8⟩:=hc m hm
       generalize l.getD k st0=x at *
       generalize l.getD m st0=y at *
       obtain ⟨x1,x2,x3,x4⟩:=x
       obtain ⟨y1,y2,y3,y4⟩:=y
       simp only at h1 h2 h3 h4 h5 h6 h7 h8
       have hne:=zbS ad
       clear ad hc
       go_wp2_with fail
       go_quiet (fail)
       go_wp2_with (first
        | (at_builtin;(refine zaH (w:=w) 91 134 zt 56 wb.heap.size ((m:Int)-(k:Int)) ⟨x1,x2,x3,x4⟩ (t:=t) (g := .nil) (A:=none) (n:=0) (cap:=0) (by rfl) (by rfl) Tryz.underlying91 ao.out an.out (by omega) (by rfl) (by rfl) (af.out _ (HE.out.trans zx)) (ac.out.trans (HE.out.trans zx)) ak.out (TvK.none_ _ _ _) (zei _ _ _ _ _ _ _ _) al.out ?_;intro A4 c4 w4 ab aa)))
       exact ⟨⟨_,m,q+1,_,rfl,rfl,by omega,by omega,am,Za ⟨ab,aa.out⟩⟩,by simp [intOf];omega⟩
   ·obtain rfl:k=n:=by omega
    have ap:runsT l=t:=by
     have h9:=HT.out
     rw [List.drop_eq_nil_of_le (by omega)] at h9
     rw [h9]
     exact znE t
    obtain ⟨A2,c2,rfl,av⟩:=zaA HH.out.1 (by omega)
    have HK2:=Za av
    have ae:=Za HH.out.2
    have ag:=Za (ap.symm.trans HF.out)
    clear av HT HH ap
    go_wp2_with fail
    go_ret
    exact TermsR.of ag.out HK2.out (ae.out.trans zx)
end Go.Proofs.YtkneghkbgingdaaGreatDoor
/- The line of a row. -/
namespace Go.Proofs.YtkneghkbgingdaaGreatDoor
set_option maxRecDepth 100000
open Go.RowKit Go.ChangeShapes Go.WideShapes Go.Joins
def LineR (r:Ro) (w:World) (e:Ending) (w':World):Prop:=Ext w w'/\((lineT r=none/\e = .returned (.tuple #[.string ⟨#[]⟩,.int .i64 4]))∨∃s,lineT r=some s/\e = .returned (.tuple #[.string ⟨s.toArray⟩,.int .i64 0]))
theorem LineR.no {r:Ro} {w w':World} (h:lineT r=none) (hb:Ext w w'):LineR r w (.returned (.tuple #[.string ⟨#[]⟩,.int .i64 4])) w':=⟨hb,.inl ⟨h,rfl⟩⟩
theorem LineR.yes {r:Ro} {s:List UInt8} {w w':World} (h:lineT r=some s) (hb:Ext w w'):LineR r w (.returned (.tuple #[.string ⟨s.toArray⟩,.int .i64 0])) w':=⟨hb,.inr ⟨s,h,rfl⟩⟩
theorem zeh {l:List St} (ha:allB l=true) (hl:l.length<=200):(termsT l).size<=200:=(zaN (zdf ha hl).1).1
theorem zge {l:List St} (ha:allB l=true) (hl:l.length<=200):(ttextE (termsT l)=0/\ttextV (termsT l)=wT (termsT l)/\(wT (termsT l)).length<=3000)∨(ttextE (termsT l)=4/\ttextV (termsT l)=[]):=by
 have h1:=(zdf ha hl).1
 by_cases h:3000<(wT (termsT l)).length
 ·right
  have h2:ttextE (termsT l)=4:=by rw [ttextE,if_neg (fun h9=>h9 h1),if_pos h]
  exact ⟨h2,by rw [ttextV,h2,if_neg (by decide)]⟩
 ·left
  have h2:ttextE (termsT l)=0:=by rw [ttextE,if_neg (fun h9=>h9 h1),if_neg h]
  exact ⟨h2,by rw [ttextV,if_pos h2],by omega⟩
theorem zkA (rb:Bool) (cs:List St) (A:Option Addr) (n c:Nat) (w:World) (hv:Vec shSt w A n cs) (hby:Bytes cs) (hn:n<=200) (ha:allB cs=true) (hg:Glob w) :
  Calls Tryz.prog 38 #[.agg #[.bool rb,.slice A n c]] w (LineR ⟨rb,cs⟩ w):=by
 have HV:=Za hv
 have HG:=Za hg
 have HB0:=Za (show Ext w (w.alloc (.cells #[.bool rb,.slice A n c] 75)) from (Zf w).alloc _)
 have hlen:=hv.1
 have ad:=Za (fun (w':World) (h:Ext w w')=>ziQ n c A cs w' (hv.ext h) hby hn ha)
 have ae:=Za (fun (A:Option Addr) (n cap:Nat) (w':World) (h:Ext w w') (ht:Tv w' A n (termsT cs))=>zgh (termsT cs) (by have:=zeh ha (by omega);omega) A n cap w' ht (hg.ext h))
 have ah:=zge ha (by omega)
 have hlt:lineT ⟨rb,cs⟩=if ttextE (termsT cs)≠0 then none else some (sideB rb++if wT (termsT cs)=[] then [] else 32::wT (termsT cs)):=rfl
 rcases ah with ⟨h1,h2,h3⟩ | ⟨h1,h2⟩
 ·have ab:=Za h1
  have ac:=Za h2
  rw [if_neg (fun h9=>h9 h1)] at hlt
  obtain ⟨T,hT⟩:∃T,wT (termsT cs)=T:=⟨_,rfl⟩
  rw [hT] at hlt h3
  have ag:=Za hT
  clear hv hby ha hg h1 h2 hT
  by_cases h0:T=[]
  ·rw [if_pos h0,ZC] at hlt
   have HL:=Za hlt
   subst h0
   clear hlt
   cases rb <;>
   ·go_enter Tryz.func38,Tryz.ntmps38
    go_wp2_with (first
     | (go_at_call 72;((with_reducible refine (ad.out _ zx).mono ?_);rintro e w1 ⟨A1,c1,rfl,hq1,hv1⟩;have HV1:=Za hv1;clear hv1))
     | (go_at_call 71;((with_reducible refine (ae.out _ _ _ _ zx HV1.out.tv).mono ?_);rintro e w2 ⟨rfl,hq2⟩;rw [ab.out,ac.out,ag.out])))
    go_ret2
    exact LineR.yes HL.out zx
  ·rw [if_neg h0] at hlt
   obtain ⟨S1,hS1⟩:∃S1,sideB rb++[32]=S1:=⟨_,rfl⟩
   obtain ⟨S2,hS2⟩:∃S2,S1++T=S2:=⟨_,rfl⟩
   have HL:=Za (show lineT ⟨rb,cs⟩=some S2 by rw [hlt,<-hS2,<-hS1,ZB];rfl)
   have hq9:(T==[])=false:=by simpa using h0
   have hsl1:S1.length<=6:=by rw [<-hS1];cases rb <;> decide
   have hsl2:S2.length<=3006:=by rw [<-hS2,Zb];omega
   have hcs2:(⟨S1.toArray⟩++⟨T.toArray⟩:ByteArray)=⟨S2.toArray⟩:=by rw [<-hS2];exact zaa S1 T
   have aa:(⟨(sideB rb).toArray⟩++⟨#[32]⟩:ByteArray)=⟨S1.toArray⟩:=by rw [<-hS1];exact zaa (sideB rb) [32]
   clear hlt hS1 hS2 h0
   cases rb <;>
   ·first
     | (have af:(⟨#[102,114,111,110,116]⟩++⟨#[32]⟩:ByteArray)=⟨S1.toArray⟩:=aa)
     | (have af:(⟨#[98,97,99,107]⟩++⟨#[32]⟩:ByteArray)=⟨S1.toArray⟩:=aa)
    clear aa
    go_enter Tryz.func38,Tryz.ntmps38
    go_wp2_with (first
     | (go_at_call 72;((with_reducible refine (ad.out _ zx).mono ?_);rintro e w1 ⟨A1,c1,rfl,hq1,hv1⟩;have HV1:=Za hv1;clear hv1))
     | (go_at_call 71;((with_reducible refine (ae.out _ _ _ _ zx HV1.out.tv).mono ?_);rintro e w2 ⟨rfl,hq2⟩;rw [ab.out,ac.out,ag.out])))
    go_ret2
    exact LineR.yes HL.out zx
 ·have ab:=Za h1
  have ac:=Za h2
  have HL:=Za (show lineT ⟨rb,cs⟩=none by rw [hlt,h1];rfl)
  clear hv hby ha hg h1 h2 hlt
  cases rb <;>
  ·go_enter Tryz.func38,Tryz.ntmps38
   go_wp2_with (first
    | (go_at_call 72;((with_reducible refine (ad.out _ zx).mono ?_);rintro e w1 ⟨A1,c1,rfl,hq1,hv1⟩;have HV1:=Za hv1;clear hv1))
    | (go_at_call 71;((with_reducible refine (ae.out _ _ _ _ zx HV1.out.tv).mono ?_);rintro e w2 ⟨rfl,hq2⟩;rw [ab.out,ac.out])))
   go_ret2
   exact LineR.no HL.out zx
end Go.Proofs.YtkneghkbgingdaaGreatDoor
/- Patterns in memory. -/
namespace Go.Proofs.YtkneghkbgingdaaGreatDoor
set_option maxRecDepth 100000
open Go.RowKit Go.ChangeShapes Go.WideShapes Go.Joins
def shStf:Shp Stf where
 size:=2
 cells x:=[.string ⟨x.nm.toArray⟩,.int .i64 x.g]
 pos:=by omega
 len _:=rfl
 one x u h:=by
  simp at h
  rcases h with h | h <;> subst h <;> rfl
structure RSec where
 nm:List UInt8
 s:Int
 A:Option Addr
 n:Nat
 c:Nat
def rsec0:RSec:=⟨[],0,none,0,0⟩
def shSec:Shp RSec where
 size:=3
 cells x:=[.string ⟨x.nm.toArray⟩,.int .i64 x.s,.slice x.A x.n x.c]
 pos:=by omega
 len _:=rfl
 one x u h:=by
  simp at h
  rcases h with h | h | h <;> subst h <;> rfl
def SeAt (w:World) (x:RSec) (r:Sec):Prop:=x.nm=r.nm/\x.s=r.s/\Rws w (fun _=>True) x.A x.n r.rows/\x.n<=x.c
def Secs (w:World) (A:Option Addr) (n:Nat) (l:List Sec):Prop:=n<=maxLen/\∃xs:List RSec,Vec shSec w A n xs/\xs.length=l.length/\∀k,k<l.length->SeAt w (xs.getD k rsec0) (l.getD k sec0)
theorem Secs.len {w:World} {A:Option Addr} {n:Nat} {l:List Sec} (h:Secs w A n l):l.length=n:=by
 obtain ⟨_,xs,h1,h2,_⟩:=h
 rw [<-h2]
 exact h1.1
theorem Secs.ext {w w':World} {A:Option Addr} {n:Nat} {l:List Sec} (h:Secs w A n l) (hb:Ext w w'):Secs w' A n l:=by
 obtain ⟨h0,xs,h1,h2,h3⟩:=h
 exact ⟨h0,xs,h1.ext hb,h2,fun k hk=>⟨(h3 k hk).1,(h3 k hk).2.1,(h3 k hk).2.2.1.ext hb,(h3 k hk).2.2.2⟩⟩
theorem Secs.at_ {w:World} {A:Option Addr} {n:Nat} {l:List Sec} (h:Secs w A n l) {k:Nat} (hk:k<n) :
  ∃(b off:Nat) (A':Option Addr) (n' c':Nat),A=some ⟨b,off,none⟩/\b<w.heap.size/\w.cell? ⟨b,off+k*3,none⟩=some (.string ⟨(seN l k).toArray⟩)/\w.cell? ⟨b,off+k*3+1,none⟩=some (.int .i64 (l.getD k sec0).s) /\
   w.cell? ⟨b,off+k*3+2,none⟩=some (.slice A' n' c')/\Rws w (fun _=>True) A' n' (l.getD k sec0).rows/\n'<=c':=by
 have hl:=h.len
 obtain ⟨h0,xs,h1,h2,h3⟩:=h
 obtain ⟨b,off,e,hlt,hc⟩:=h1.2 (by omega)
 have hx:xs[k]?=some (xs.getD k rsec0):=by
  rw [Zc,Zd (by omega)];rfl
 obtain ⟨g1,g2,g3,g4⟩:=h3 k (by omega)
 refine ⟨b,off,(xs.getD k rsec0).A,(xs.getD k rsec0).n,(xs.getD k rsec0).c,e,hlt,?_,?_,hc k _ hx 2 _ rfl,g3,g4⟩
 ·unfold seN;rw [<-g1];exact hc k _ hx 0 _ rfl
 ·rw [<-g2];exact hc k _ hx 1 _ rfl
theorem Stf.at_ {w:World} {A:Option Addr} {n:Nat} {l:List Stf} (h:Vec shStf w A n l) {k:Nat} (hk:k<n) :
  ∃(b off:Nat),A=some ⟨b,off,none⟩/\b<w.heap.size/\w.cell? ⟨b,off+k*2,none⟩=some (.string ⟨(stN l k).toArray⟩)/\w.cell? ⟨b,off+k*2+1,none⟩=some (.int .i64 (l.getD k stf0).g):=by
 obtain ⟨b,off,e,hlt,hc⟩:=h.2 (by omega)
 have hx:l[k]?=some (l.getD k stf0):=by
  rw [Zc,Zd (by rw [h.1];exact hk)];rfl
 exact ⟨b,off,e,hlt,hc k _ hx 0 _ rfl,hc k _ hx 1 _ rfl⟩
section
variable {H:Type} {enc:TypeId×Value->H} {w:World} {base:Nat} {spare:Nat->Bool} {held:Bool}
theorem zgL {fuel:Nat} {v:Value} {y:DataW H×List MemPlace} (h:DataW.trod enc Tryz.prog w base spare held fuel 39 [v]=some y) :
  ∃(A:Option Addr) (n c:Nat) (l:List Stf),v = .slice A n c/\Vec shStf w A n l/\n<=maxLen:=by
 obtain ⟨A,n,c,l,e,hv,hm, -⟩:=zbn (S:=shStf) (Q:=fun _=>True) Tryz.underlying39 (by kernel_rfl) (fun fuel cs y hl hy=>by
  obtain ⟨xs,m,_,_,_,ab,aa⟩:=DataW.trod_struct Tryz.underlying61 hy
  match cs,hl with
  | [c0,c1],_ =>
   match xs,ab with
   | [y0,y1],_ =>
    have C0:Tryz.prog.cellsOf 9=1:=by kernel_rfl
    have C1:Tryz.prog.cellsOf 3=1:=by kernel_rfl
    have h0:=aa 0 _ rfl
    have h1:=aa 1 _ rfl
    simp [C0,C1] at h0 h1
    obtain ⟨b,e0,_,_⟩:=DataW.trod_string Tryz.underlying9 h0
    obtain ⟨n1,e1,_⟩:=DataW.trod_int Tryz.underlying3 h1
    simp at e0 e1
    subst e0
    subst e1
    exact ⟨⟨b.data.toList,n1⟩,by simp [shStf],trivial⟩) h
 exact ⟨A,n,c,l,e,hv,hm⟩
theorem zcL {P:Program} {t e:TypeId} {A:Option Addr} {n c fuel:Nat} {y:DataW H×List MemPlace} (ht:P.underlying t=some (.slice e)) (h:DataW.trod enc P w base spare held fuel t [.slice A n c]=some y):n<=c:=by
 rcases Go.Deep.open_slice ht h with ⟨aa,_⟩ | ⟨a,len,cap,m,n,D,Pl,aa,_,hl,_⟩
 ·simp only [List.cons.injEq,and_true,Value.slice.injEq] at aa
  omega
 ·simp only [List.cons.injEq,and_true,Value.slice.injEq] at aa
  omega
theorem zgK {fuel:Nat} {v:Value} {y:DataW H×List MemPlace} (h:DataW.trod enc Tryz.prog w base spare held fuel 40 [v]=some y) :
  ∃(A:Option Addr) (n c:Nat) (l:List Sec),v = .slice A n c/\Secs w A n l:=by
 obtain ⟨A,n,c,xs,e,hv,hm,hq⟩:=zbn (S:=shSec) (Q:=fun x=>∃r,SeAt w x r) Tryz.underlying40 (by kernel_rfl) (fun fuel cs y hl hy=>by
  obtain ⟨xs,m,_,_,_,ac,aa⟩:=DataW.trod_struct Tryz.underlying59 hy
  match cs,hl with
  | [c0,c1,c2],_ =>
   match xs,ac with
   | [y0,y1],_ =>
    have C0:Tryz.prog.cellsOf 9=1:=by kernel_rfl
    have C1:Tryz.prog.cellsOf 24=2:=by kernel_rfl
    have h0:=aa 0 _ rfl
    have h1:=aa 1 _ rfl
    simp [C0,C1] at h0 h1
    obtain ⟨b,e0,_,_⟩:=DataW.trod_string Tryz.underlying9 h0
    simp at e0
    subst e0
    obtain ⟨zs,m2,_,_,_,ad,ab⟩:=DataW.trod_struct Tryz.underlying24 h1
    match zs,ad with
    | [z0,z1],_ =>
     have C2:Tryz.prog.cellsOf 3=1:=by kernel_rfl
     have C3:Tryz.prog.cellsOf 22=1:=by kernel_rfl
     have k0:=ab 0 _ rfl
     have k1:=ab 1 _ rfl
     simp [C2,C3] at k0 k1
     obtain ⟨n1,e1,_⟩:=DataW.trod_int Tryz.underlying3 k0
     simp at e1
     subst e1
     obtain ⟨A',n',c',l,rfl,hl⟩:=zcW k1
     exact ⟨⟨b.data.toList,n1,A',n',c'⟩,by simp [shSec],⟨b.data.toList,n1,l⟩,rfl,rfl,hl,zcL Tryz.underlying22 k1⟩) h
 have key:∀xs:List RSec,(∀x∈xs,∃r,SeAt w x r)->∃l:List Sec,xs.length=l.length/\∀k,k<l.length->SeAt w (xs.getD k rsec0) (l.getD k sec0):=by
  intro xs
  induction xs with
  | nil=>intro _;exact ⟨[],rfl,fun k hk=>by simp at hk⟩
  | cons x xs ih =>
   intro hx
   obtain ⟨r,hr⟩:=hx x (by simp)
   obtain ⟨l,hl⟩:=ih (fun z hz=>hx z (by simp [hz]))
   refine ⟨r::l,by simp [hl.1],fun k hk=>?_⟩
   cases k with
   | zero=>simpa using hr
   | succ k=>simpa using hl.2 k (by simpa using hk)
 obtain ⟨l,hl⟩:=key xs hq
 exact ⟨A,n,c,l,e,hm,xs,hv,hl⟩
theorem zfH {r:Reach} {b0:Nat} {v:Value} {d:DataW H} {p:List MemPlace} (hv:Value.okWide Tryz.prog w r b0 42 v) (h:DataW.Trod enc Tryz.prog w base spare held 42 v d p) :
  ∃(nm:List UInt8) (g1 g2 g3 g4:Int) (As:Option Addr) (ns cs:Nat) (st:List Stf) (Ac:Option Addr) (nc cc:Nat) (se:List Sec),
   v = .agg #[.string ⟨nm.toArray⟩,.int .i64 g1,.int .i64 g2,.int .i64 g3,.int .i64 g4,.slice As ns cs,.slice Ac nc cc]/\Vec shStf w As ns st/\ns<=maxLen/\Secs w Ac nc se:=by
 obtain ⟨vs,rfl,ac⟩:=okWide_struct Tryz.underlying42 hv
 have hC:Tryz.prog.cellsOf 42=7:=by kernel_rfl
 rw [hC] at ac
 obtain ⟨L,rfl⟩:∃L:List Value,vs=L.toArray:=⟨vs.toList,by simp⟩
 obtain ⟨fuel,hf⟩:=h
 match L,ac with
 | [a0,a1,a2,a3,a4,a5,a6],_ =>
  obtain ⟨xs,m,_,_,_,ag,aa⟩:=DataW.trod_struct Tryz.underlying42 hf
  match xs,ag with
  | [y0,y1,y2,y3],_ =>
   have C0:Tryz.prog.cellsOf 9=1:=by kernel_rfl
   have C1:Tryz.prog.cellsOf 38=4:=by kernel_rfl
   have C2:Tryz.prog.cellsOf 39=1:=by kernel_rfl
   have C3:Tryz.prog.cellsOf 40=1:=by kernel_rfl
   have C4:Tryz.prog.cellsOf 3=1:=by kernel_rfl
   have h0:=aa 0 _ rfl
   have h1:=aa 1 _ rfl
   have h2:=aa 2 _ rfl
   have h3:=aa 3 _ rfl
   simp [C0,C1,C2,C3,Value.cells] at h0 h1 h2 h3
   obtain ⟨b,e0,_,_⟩:=DataW.trod_string Tryz.underlying9 h0
   simp at e0
   subst e0
   obtain ⟨A,n,c,st,rfl,af,ad⟩:=zgL h2
   obtain ⟨A2,n2,c2,se,rfl,ae⟩:=zgK h3
   obtain ⟨zs,m2,_,_,_,ah,ab⟩:=DataW.trod_struct Tryz.underlying38 h1
   match zs,ah with
   | [z0,z1,z2,z3],_ =>
    have k0:=ab 0 _ rfl
    have k1:=ab 1 _ rfl
    have k2:=ab 2 _ rfl
    have k3:=ab 3 _ rfl
    simp [C4] at k0 k1 k2 k3
    obtain ⟨g1,e1,_⟩:=DataW.trod_int Tryz.underlying3 k0
    obtain ⟨g2,e2,_⟩:=DataW.trod_int Tryz.underlying3 k1
    obtain ⟨g3,e3,_⟩:=DataW.trod_int Tryz.underlying3 k2
    obtain ⟨g4,e4,_⟩:=DataW.trod_int Tryz.underlying3 k3
    simp at e1 e2 e3 e4
    subst e1
    subst e2
    subst e3
    subst e4
    exact ⟨b.data.toList,g1,g2,g3,g4,A,n,c,st,A2,n2,c2,se,by simp,af,ad,ae⟩
end
end Go.Proofs.YtkneghkbgingdaaGreatDoor
/- Words: the program's and the reference's. -/
namespace Go.Proofs.YtkneghkbgingdaaGreatDoor
set_option maxRecDepth 100000
open Go.RowKit
theorem zlh (l:List UInt8) (k:Nat) (h:k<(⟨l.toArray⟩:ByteArray).size):(⟨l.toArray⟩:ByteArray)[k]=l.getD k 0:=by
 have h2:k<l.length:=by simpa [ByteArray.size] using h
 rw [Zc,Zd h2]
 rfl
theorem zfM (s:List UInt8) (hs:s.length<=100000) (w:World):Calls Tryz.prog 60 #[.string ⟨s.toArray⟩] w fun e w'=>e = .returned (.bool (wordS s))/\Ext w w':=by
 by_cases h0:s.length=0
 ·have HN:=Za (zdj (s:=s) (.inl h0))
  have q1:((s.length:Int)==0)=true:=by simp [h0]
  clear h0
  go_enter Tryz.func60,Tryz.ntmps60
  go_wp2_with fail
  go_ret
  exact ⟨by rw [HN.out];rfl,Zf _⟩
 have q1:((s.length:Int)==0)=false:=by rw [Ze];omega
 by_cases h4:40<s.length
 ·have HN:=Za (zdj (s:=s) (.inr h4))
  have q2:(40:Int)<(s.length:Int):=by omega
  clear h0
  go_enter Tryz.func60,Tryz.ntmps60
  go_wp2_with fail
  go_ret
  exact ⟨by rw [HN.out];rfl,Zf _⟩
 have q2:¬((40:Int)<(s.length:Int)):=by omega
 have ab:1<=s.length:=by omega
 clear h0
 go_enter Tryz.func60,Tryz.ntmps60
 go_wp2_with fail
 go_loopw [3] (fun i wr=>∃k:Nat,i = .int .i64 (k:Int)/\k<=s.length/\Hid (∀j,j<k->okC (s.getD j 0)=true)/\Hid (Ext w wr)) (fun i _=>s.length-(intOf i).toNat)
 case atStart=>exact ⟨0,rfl,Zy _,Za (fun j hj=>absurd hj (by omega)),Za (Zf _)⟩
 case round =>
  obtain ⟨k,rfl,hk,HA,HE⟩:=hrel
  have q0:(0:Int)<=(k:Int):=by omega
  by_cases hlt:k<s.length
  ·have q1:(k:Int)<(s.length:Int):=by omega
   have h5:=zlh s k
   obtain ⟨x,hx⟩:∃x,s.getD k 0=x:=⟨_,rfl⟩
   rw [hx] at h5
   have HX:=Za hx
   clear hx
   by_cases hc:x.toNat=45∨(97<=x.toNat/\x.toNat<=122)∨(48<=x.toNat/\x.toNat<=57)
   ·have HN:=Za (show ∀j,j<k+1->okC (s.getD j 0)=true from fun j hj=>by
     by_cases e:j=k
     ·subst e;rw [HX.out];exact ZW hc
     ·exact HA.out j (by omega))
    rcases hc with hc | hc | hc
    ·have b1:((x.toNat:Int) != 45)=false:=by rw [bne_eq_false_iff_eq];omega
     clear hc
     go_wp2_with fail
     go_roundw
     case rel=>exact ⟨k+1,by go_num,by omega,HN,HE⟩
     case measure=>simp [intOf] <;> omega
    ·have b1:((x.toNat:Int) != 45)=true:=by rw [bne_iff_ne];omega
     have b2:¬((x.toNat:Int)<97):=by omega
     have b3:¬((122:Int)<(x.toNat:Int)):=by omega
     clear hc
     go_wp2_with fail
     go_roundw
     case rel=>exact ⟨k+1,by go_num,by omega,HN,HE⟩
     case measure=>simp [intOf] <;> omega
    ·have b1:((x.toNat:Int) != 45)=true:=by rw [bne_iff_ne];omega
     have b2:(x.toNat:Int)<97:=by omega
     have b4:¬((x.toNat:Int)<48):=by omega
     have b5:¬((57:Int)<(x.toNat:Int)):=by omega
     clear hc
     go_wp2_with fail
     go_roundw
     case rel=>exact ⟨k+1,by go_num,by omega,HN,HE⟩
     case measure=>simp [intOf] <;> omega
   ·have HN:=Za (zgj hlt (show okC (s.getD k 0)=false by rw [HX.out];exact ZF hc))
    have aa:(x.toNat<48/\x.toNat≠45)∨(57<x.toNat/\x.toNat<97)∨122<x.toNat:=by omega
    clear hc
    rcases aa with hc | hc | hc
    ·have b1:((x.toNat:Int) != 45)=true:=by rw [bne_iff_ne];omega
     have b2:(x.toNat:Int)<97:=by omega
     have b4:(x.toNat:Int)<48:=by omega
     clear hc
     go_wp2_with fail
     go_ret
     exact ⟨by rw [HN.out];rfl,HE.out⟩
    ·have b1:((x.toNat:Int) != 45)=true:=by rw [bne_iff_ne];omega
     have b2:(x.toNat:Int)<97:=by omega
     have b4:¬((x.toNat:Int)<48):=by omega
     have b5:(57:Int)<(x.toNat:Int):=by omega
     clear hc
     go_wp2_with fail
     go_ret
     exact ⟨by rw [HN.out];rfl,HE.out⟩
    ·have b1:((x.toNat:Int) != 45)=true:=by rw [bne_iff_ne];omega
     have b2:¬((x.toNat:Int)<97):=by omega
     have b3:(122:Int)<(x.toNat:Int):=by omega
     have b4:¬((x.toNat:Int)<48):=by omega
     have b5:(57:Int)<(x.toNat:Int):=by omega
     clear hc
     go_wp2_with fail
     go_ret
     exact ⟨by rw [HN.out];rfl,HE.out⟩
  ·obtain rfl:k=s.length:=by omega
   have HN:=Za (zik ⟨ab,by omega⟩ HA.out)
   go_wp2_with fail
   go_ret
   exact ⟨by rw [HN.out];rfl,HE.out⟩
theorem zdL (s:List UInt8) (hs:s.length<=100000) (w:World):Calls Tryz.prog 92 #[.string ⟨s.toArray⟩] w fun e w'=>e = .returned (.bool (wordS s))/\Ext w w':=by
 go_enter Tryz.func92,Tryz.ntmps92
 go_wp2_with fail
 go_loopw [3] (fun i wr=>∃k:Nat,i = .int .i64 (k:Int)/\k<=s.length/\Hid (∀j,j<k->okC (s.getD j 0)=true)/\Hid (Ext w wr)) (fun i _=>s.length-(intOf i).toNat)
 case atStart=>exact ⟨0,rfl,Zy _,Za (fun j hj=>absurd hj (by omega)),Za (Zf _)⟩
 case round =>
  obtain ⟨k,rfl,hk,HA,HE⟩:=hrel
  have q0:(0:Int)<=(k:Int):=by omega
  by_cases hlt:k<s.length
  ·have q1:(k:Int)<(s.length:Int):=by omega
   have h5:=zlh s k
   obtain ⟨x,hx⟩:∃x,s.getD k 0=x:=⟨_,rfl⟩
   rw [hx] at h5
   have HX:=Za hx
   clear hx
   by_cases hc:x.toNat=45∨(97<=x.toNat/\x.toNat<=122)∨(48<=x.toNat/\x.toNat<=57)
   ·have HN:=Za (show ∀j,j<k+1->okC (s.getD j 0)=true from fun j hj=>by
     by_cases e:j=k
     ·subst e;rw [HX.out];exact ZW hc
     ·exact HA.out j (by omega))
    rcases hc with hc | hc | hc
    ·have b1:((x.toNat:Int) != 45)=false:=by rw [bne_eq_false_iff_eq];omega
     clear hc
     go_wp2_with fail
     go_roundw
     case rel=>exact ⟨k+1,by go_num,by omega,HN,HE⟩
     case measure=>simp [intOf] <;> omega
    ·have b1:((x.toNat:Int) != 45)=true:=by rw [bne_iff_ne];omega
     have b2:¬((x.toNat:Int)<97):=by omega
     have b3:¬((122:Int)<(x.toNat:Int)):=by omega
     clear hc
     go_wp2_with fail
     go_roundw
     case rel=>exact ⟨k+1,by go_num,by omega,HN,HE⟩
     case measure=>simp [intOf] <;> omega
    ·have b1:((x.toNat:Int) != 45)=true:=by rw [bne_iff_ne];omega
     have b2:(x.toNat:Int)<97:=by omega
     have b4:¬((x.toNat:Int)<48):=by omega
     have b5:¬((57:Int)<(x.toNat:Int)):=by omega
     clear hc
     go_wp2_with fail
     go_roundw
     case rel=>exact ⟨k+1,by go_num,by omega,HN,HE⟩
     case measure=>simp [intOf] <;> omega
   ·have HN:=Za (zgj hlt (show okC (s.getD k 0)=false by rw [HX.out];exact ZF hc))
    have aa:(x.toNat<48/\x.toNat≠45)∨(57<x.toNat/\x.toNat<97)∨122<x.toNat:=by omega
    clear hc
    rcases aa with hc | hc | hc
    ·have b1:((x.toNat:Int) != 45)=true:=by rw [bne_iff_ne];omega
     have b2:(x.toNat:Int)<97:=by omega
     have b4:(x.toNat:Int)<48:=by omega
     clear hc
     go_wp2_with fail
     go_ret
     exact ⟨by rw [HN.out];rfl,HE.out⟩
    ·have b1:((x.toNat:Int) != 45)=true:=by rw [bne_iff_ne];omega
     have b2:(x.toNat:Int)<97:=by omega
     have b4:¬((x.toNat:Int)<48):=by omega
     have b5:(57:Int)<(x.toNat:Int):=by omega
     clear hc
     go_wp2_with fail
     go_ret
     exact ⟨by rw [HN.out];rfl,HE.out⟩
    ·have b1:((x.toNat:Int) != 45)=true:=by rw [bne_iff_ne];omega
     have b2:¬((x.toNat:Int)<97):=by omega
     have b3:(122:Int)<(x.toNat:Int):=by omega
     have b4:¬((x.toNat:Int)<48):=by omega
     have b5:(57:Int)<(x.toNat:Int):=by omega
     clear hc
     go_wp2_with fail
     go_ret
     exact ⟨by rw [HN.out];rfl,HE.out⟩
  ·obtain rfl:k=s.length:=by omega
   by_cases h0:s.length=0
   ·have HN:=Za (zdj (s:=s) (.inl h0))
    have q1:¬((1:Int)<=(s.length:Int)):=by omega
    clear h0
    go_wp2_with fail
    go_ret
    exact ⟨by rw [HN.out];rfl,HE.out⟩
   ·have q1:(1:Int)<=(s.length:Int):=by omega
    by_cases h4:40<s.length
    ·have HN:=Za (zdj (s:=s) (.inr h4))
     have q2:¬((s.length:Int)<=40):=by omega
     clear h0
     go_wp2_with fail
     go_ret
     exact ⟨by rw [HN.out];rfl,HE.out⟩
    ·have HN:=Za (zik ⟨by omega,by omega⟩ HA.out)
     have q2:(s.length:Int)<=40:=by omega
     clear h0
     go_wp2_with fail
     go_ret
     exact ⟨by rw [HN.out];rfl,HE.out⟩
end Go.Proofs.YtkneghkbgingdaaGreatDoor
/- Names: whether all are words,and whether two are the same;over any function value that makes names. -/
namespace Go.Proofs.YtkneghkbgingdaaGreatDoor
set_option maxRecDepth 100000
open Go.RowKit Go.ChangeShapes Go.WideShapes Go.Joins
theorem zfC (n K:Nat) (caps:Array Value) (g:Nat->List UInt8) (w:World) (hn:n<=20000)
  (hK:∀args w,(callFunc K args).run Tryz.prog w = .ok (.enter K args) w)
  (hcl:∀(i:Nat) (w1:World),i<n->Ext w w1->Calls Tryz.prog K (#[.int .i64 i]++caps) w1 fun e w2=>e = .returned (.string ⟨(g i).toArray⟩)/\Ext w1 w2)
  (hgl:∀i,i<n->(g i).length<=100000) :
  Calls Tryz.prog 57 #[.int .i64 n,.func (.func K) #[] caps] w fun e w'=>e = .returned (.tuple #[.bool (wordsB g n),.bool (twiceB g n)])/\Ext w w':=by
 have HK:=Za hK
 have HC:=Za hcl
 have HL:=Za hgl
 clear hK hcl hgl
 go_enter Tryz.func57,Tryz.ntmps57
 go_wp2_with fail
 go_loopw [4,5,9] (fun a b v wr=>∃(k:Nat) (u t:Bool),k<=n/\v = .int .i64 (k:Int)/\a = .bool u/\b = .bool t/\Hid (u=wordsB g k)/\Hid (t=twiceB g k)/\Hid (Ext w wr)) (fun _ _ v _=>n-(intOf v).toNat)
 case atStart=>exact ⟨0,_,_,Zy _,rfl,rfl,rfl,Za rfl,Za rfl,Za (Zf _)⟩
 case round =>
  obtain ⟨k,u,t0,hk,rfl,rfl,rfl,HW,HT,HE⟩:=hrel
  obtain ⟨wa,rfl⟩:∃wa:World,wa=wr:=⟨_,rfl⟩
  have q0:(0:Int)<=(k:Int):=by omega
  by_cases hlt:k<n
  ·have q1:(k:Int)<(n:Int):=by omega
   obtain ⟨X,hX⟩:∃X,g k=X:=⟨_,rfl⟩
   have an:X.length<=100000:=by rw [<-hX];exact HL.out k hlt
   have ai:=Za (fun (w1:World) (h:Ext w w1)=>(show Calls Tryz.prog K (#[.int .i64 k]++caps) w1 fun e w2=>e = .returned (.string ⟨X.toArray⟩)/\Ext w1 w2 from by have h9:=HC.out k w1 hlt h;rw [hX] at h9;exact h9))
   have HX:=Za hX
   clear hX
   cases hu:u with
   | false =>
    have ak:=Za (show false=wordsB g (k+1) by rw [zb6,<-HW.out,hu];rfl)
    clear hu
    have aj:=HE
    go_wp2_with fail
    go_loopw [5,20] (fun b v wr=>∃(j:Nat) (t:Bool),j<=k/\v = .int .i64 (j:Int)/\b = .bool t/\Hid (t=(twiceB g k || amongB g k j))/\Hid (Ext w wr)) (fun _ v _=>k-(intOf v).toNat)
    case atStart=>exact ⟨0,_,Zy _,rfl,rfl,Za (by rw [HT.out,show amongB g k 0=false from rfl,Bool.or_false]),aj⟩
    case round =>
     obtain ⟨j,t,hj,rfl,rfl,ae,aa⟩:=hrel
     obtain ⟨wb,rfl⟩:∃wb:World,wb=wr:=⟨_,rfl⟩
     have p0:(0:Int)<=(j:Int):=by omega
     by_cases hjl:j<k
     ·have p1:(j:Int)<(k:Int):=by omega
      obtain ⟨Y,hY⟩:∃Y,g j=Y:=⟨_,rfl⟩
      have ah:=Za (fun (w1:World) (h:Ext w w1)=>(show Calls Tryz.prog K (#[.int .i64 j]++caps) w1 fun e w2=>e = .returned (.string ⟨Y.toArray⟩)/\Ext w1 w2 from by have h9:=HC.out j w1 (by omega) h;rw [hY] at h9;exact h9))
      have ac:=Za (show (twiceB g k || amongB g k (j+1))=((twiceB g k || amongB g k j) || (X==Y)) by rw [zbZ,HX.out,hY,Bool.or_assoc])
      clear hY
      cases ht:t with
      | true =>
       have HN:=Za (show true=(twiceB g k || amongB g k (j+1)) by rw [ac.out,<-ae.out,ht];rfl)
       clear ht
       go_wp2_with fail
       go_roundw
       case rel=>exact ⟨j+1,true,by omega,by go_num,rfl,HN,aa⟩
       case measure=>simp [intOf] <;> omega
      | false =>
       by_cases hxy:X=Y
       ·have HN:=Za (show true=(twiceB g k || amongB g k (j+1)) by rw [ac.out,hxy];simp)
        have al:(X==Y)=true:=by simpa using hxy
        clear ht hxy
        go_wp2_with fail
        rw [HK.out,Oper.upon_enter]
        refine (ai.out _ aa.out).mono ?_
        rintro e w5 ⟨rfl,af⟩
        have ab:=Za (aa.out.trans af)
        go_wp2_with fail
        rw [HK.out,Oper.upon_enter]
        refine (ah.out _ ab.out).mono ?_
        rintro e w6 ⟨rfl,ag⟩
        have ad:=Za (ab.out.trans ag)
        go_wp2_with fail
        go_roundw
        case rel=>exact ⟨j+1,true,by omega,by go_num,by simp,HN,ad⟩
        case measure=>simp [intOf] <;> omega
       ·have HN:=Za (show false=(twiceB g k || amongB g k (j+1)) by rw [ac.out,<-ae.out,ht];simp [hxy])
        have al:(X==Y)=false:=by simpa using hxy
        clear ht hxy
        go_wp2_with fail
        rw [HK.out,Oper.upon_enter]
        refine (ai.out _ aa.out).mono ?_
        rintro e w5 ⟨rfl,af⟩
        have ab:=Za (aa.out.trans af)
        go_wp2_with fail
        rw [HK.out,Oper.upon_enter]
        refine (ah.out _ ab.out).mono ?_
        rintro e w6 ⟨rfl,ag⟩
        have ad:=Za (ab.out.trans ag)
        go_wp2_with fail
        go_roundw
        case rel=>exact ⟨j+1,false,by omega,by go_num,by simp,HN,ad⟩
        case measure=>simp [intOf] <;> omega
     ·obtain rfl:j=k:=by omega
      go_wp2_with fail
      go_roundw
      case rel=>exact ⟨j+1,_,t,by omega,by go_num,rfl,rfl,ak,Za (by rw [zbs];exact ae.out),aa⟩
      case measure=>simp [intOf] <;> omega
   | true =>
    obtain ⟨z,hz⟩:∃z,wordS X=z:=⟨_,rfl⟩
    have HZ:=Za hz
    have ak:=Za (show z=wordsB g (k+1) by rw [zb6,<-HW.out,hu,HX.out,hz];rfl)
    clear hu hz
    go_wp2_with fail
    rw [HK.out,Oper.upon_enter]
    refine (ai.out _ HE.out).mono ?_
    rintro e w3 ⟨rfl,ao⟩
    have am:=Za (HE.out.trans ao)
    go_wp2_with (first
     | (go_at_call 60;((with_reducible refine (zfM X an _).mono ?_);rintro e w4 ⟨rfl,ap⟩;rw [HZ.out])))
    have aj:=Za (am.out.trans ap)
    go_loopw [5,20] (fun b v wr=>∃(j:Nat) (t:Bool),j<=k/\v = .int .i64 (j:Int)/\b = .bool t/\Hid (t=(twiceB g k || amongB g k j))/\Hid (Ext w wr)) (fun _ v _=>k-(intOf v).toNat)
    case atStart=>exact ⟨0,_,Zy _,rfl,rfl,Za (by rw [HT.out,show amongB g k 0=false from rfl,Bool.or_false]),aj⟩
    case round =>
     obtain ⟨j,t,hj,rfl,rfl,ae,aa⟩:=hrel
     obtain ⟨wb,rfl⟩:∃wb:World,wb=wr:=⟨_,rfl⟩
     have p0:(0:Int)<=(j:Int):=by omega
     by_cases hjl:j<k
     ·have p1:(j:Int)<(k:Int):=by omega
      obtain ⟨Y,hY⟩:∃Y,g j=Y:=⟨_,rfl⟩
      have ah:=Za (fun (w1:World) (h:Ext w w1)=>(show Calls Tryz.prog K (#[.int .i64 j]++caps) w1 fun e w2=>e = .returned (.string ⟨Y.toArray⟩)/\Ext w1 w2 from by have h9:=HC.out j w1 (by omega) h;rw [hY] at h9;exact h9))
      have ac:=Za (show (twiceB g k || amongB g k (j+1))=((twiceB g k || amongB g k j) || (X==Y)) by rw [zbZ,HX.out,hY,Bool.or_assoc])
      clear hY
      cases ht:t with
      | true =>
       have HN:=Za (show true=(twiceB g k || amongB g k (j+1)) by rw [ac.out,<-ae.out,ht];rfl)
       clear ht
       go_wp2_with fail
       go_roundw
       case rel=>exact ⟨j+1,true,by omega,by go_num,rfl,HN,aa⟩
       case measure=>simp [intOf] <;> omega
      | false =>
       by_cases hxy:X=Y
       ·have HN:=Za (show true=(twiceB g k || amongB g k (j+1)) by rw [ac.out,hxy];simp)
        have al:(X==Y)=true:=by simpa using hxy
        clear ht hxy
        go_wp2_with fail
        rw [HK.out,Oper.upon_enter]
        refine (ai.out _ aa.out).mono ?_
        rintro e w5 ⟨rfl,af⟩
        have ab:=Za (aa.out.trans af)
        go_wp2_with fail
        rw [HK.out,Oper.upon_enter]
        refine (ah.out _ ab.out).mono ?_
        rintro e w6 ⟨rfl,ag⟩
        have ad:=Za (ab.out.trans ag)
        go_wp2_with fail
        go_roundw
        case rel=>exact ⟨j+1,true,by omega,by go_num,by simp,HN,ad⟩
        case measure=>simp [intOf] <;> omega
       ·have HN:=Za (show false=(twiceB g k || amongB g k (j+1)) by rw [ac.out,<-ae.out,ht];simp [hxy])
        have al:(X==Y)=false:=by simpa using hxy
        clear ht hxy
        go_wp2_with fail
        rw [HK.out,Oper.upon_enter]
        refine (ai.out _ aa.out).mono ?_
        rintro e w5 ⟨rfl,af⟩
        have ab:=Za (aa.out.trans af)
        go_wp2_with fail
        rw [HK.out,Oper.upon_enter]
        refine (ah.out _ ab.out).mono ?_
        rintro e w6 ⟨rfl,ag⟩
        have ad:=Za (ab.out.trans ag)
        go_wp2_with fail
        go_roundw
        case rel=>exact ⟨j+1,false,by omega,by go_num,by simp,HN,ad⟩
        case measure=>simp [intOf] <;> omega
     ·obtain rfl:j=k:=by omega
      go_wp2_with fail
      go_roundw
      case rel=>exact ⟨j+1,_,t,by omega,by go_num,rfl,rfl,ak,Za (by rw [zbs];exact ae.out),aa⟩
      case measure=>simp [intOf] <;> omega
  ·obtain rfl:k=n:=by omega
   go_wp2_with fail
   go_ret2
   exact ⟨by rw [HW.out,HT.out];rfl,HE.out⟩
end Go.Proofs.YtkneghkbgingdaaGreatDoor
