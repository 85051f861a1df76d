/- Parse of terms. -/
import Derived.Test.YtbjgpbojjhldaaaGreatDoorY23
import Derived.Shelf.Sort.Plain
import Derived.Shelf.Unicode.DecodeAny
import Derived.Ground.Names2Prog
import Derived.Shelf.Slices.SearchI
import Derived.Shelf.Slices.In.SortNone
set_option maxHeartbeats 16000000
namespace Go.Proofs.YtbjgpbojjhldaaaGreatDoor
set_option maxRecDepth 100000
open Go.RowKit Go.ChangeShapes Go.WideShapes Go.Joins
theorem zlD {s:List UInt8} (h:(untilS s).1≠[]):(untilS s).2.length+1<=s.length:=by
 have h1:=congrArg List.length (zbm s)
 rw [Zc] at h1
 have h2:=List.length_pos_iff.2 h
 omega
theorem zng {s:List UInt8} {c:St} (h:parseL s=some [c]):s≠[]:=by
 obtain ⟨_,h1,h2⟩:=zch.1 h
 have h3:=(zaZ h1).2.1
 have h4:okSt c=true:=by simpa [allB] using h3
 rw [<-h2]
 exact (zct h4).2.2
theorem zoG {at_:List UInt8->Option Int} {c:St} {g:Tms} {s:List UInt8} {n:Int} {c':St} {g':Tms} {r:List UInt8} (h:rdN at_ c g s=some ((n,c',g'),r)):g'=g/\r.length<=s.length:=by
 refine ⟨?_,(zgQ h).length_le⟩
 unfold rdN at h
 split at h
 ·split at h
  ·cases h
  ·cases h;rfl
 ·cases h;rfl
theorem zp6 (at_:List UInt8->Option Int):∀f,(∀d s n c g r,rdT at_ f d s=some ((n,c,g),r)->1+g.size+r.length<=s.length)/\(∀d s t r,rdL at_ f d s=some (t,r)->t.size+r.length<=s.length):=by
 intro f
 induction f with
 | zero=>exact ⟨fun d s n c g r h=>(by rw [rdT] at h;cases h),fun d s t r h=>(by rw [rdL] at h;cases h)⟩
 | succ f ih =>
  refine ⟨fun d s n c g r h=>?_,fun d s t r h=>?_⟩
  ·unfold rdT at h
   split at h
   ·rename_i s1
    split at h
    ·cases h
    ·split at h
     ·rename_i g0 s2 h2
      have h3:=ih.2 _ _ _ _ h2
      obtain ⟨rfl,h4⟩:=zoG h
      simp only [Zk] at h3 ⊢
      omega
     ·cases h
   ·split at h
    ·rename_i c0 h2
     obtain ⟨rfl,h4⟩:=zoG h
     have h5:=zlD (zng h2)
     simp only [Tms.size]
     omega
    ·cases h
  ·rw [rdL] at h
   split at h
   ·cases h
   ·rename_i n c g s2 h2
    have h3:=ih.1 _ _ _ _ _ _ h2
    obtain ⟨y,hy,e⟩:=ZS.1 h
    cases e
    have h4:=ih.2 _ _ _ _ hy
    simp only [Zk] at h3
    simp only [Tms.size]
    omega
   ·rename_i n c g s1 hne h2
    cases h
    have h3:=ih.1 _ _ _ _ _ _ h2
    simp only [Tms.size]
    omega
theorem zkM {at_:List UInt8->Option Int} {s:List UInt8} {t:Tms} (h:readT at_ s=some t):t.size<=s.length:=by
 unfold readT at h
 split at h
 ·cases h;simp [Tms.size]
 ·split at h
  ·rename_i t' h2
   cases h
   have:=(zp6 at_ _).2 _ _ _ _ h2
   omega
  ·cases h
theorem zkB {w:World} {B k:Nat} {e:TypeId} {A:Option Addr} {c:Nat} {t:Tms} (h:OwnT w B e (.slice A k c) k t) (hk:k<=1000000):Tv w A k t:=by
 obtain ⟨A',c',e1,h1⟩:=zcB h hk
 cases e1
 exact h1.tv
def PTR (s:List UInt8) (w:World) (e:Ending) (w':World):Prop:=∃(v:Value) (x:Int),e = .returned (.tuple #[v,.int .i64 x])/\Ext w w' /\
 ((parseT atoiO s=none/\v = .slice none 0 0/\x=12)∨∃t,parseT atoiO s=some t/\x=0/\OwnT w' w.heap.size 140 v t.cnt t)
theorem PTR.no {s:List UInt8} {w w':World} (h:parseT atoiO s=none) (hb:Ext w w'):PTR s w (.returned (.tuple #[.slice none 0 0,.int .i64 12])) w':=⟨_,_,rfl,hb,.inl ⟨h,rfl,rfl⟩⟩
theorem PTR.yes {s:List UInt8} {v:Value} {t:Tms} {w w':World} (h:parseT atoiO s=some t) (hb:Ext w w') (ho:OwnT w' w.heap.size 140 v t.cnt t):PTR s w (.returned (.tuple #[v,.int .i64 0])) w':=⟨_,_,rfl,hb,.inr ⟨t,h,rfl,ho⟩⟩
theorem zhH (s:List UInt8) (hl0:s.length<=1000000) (ha:Asc s) (w:World) (hg:Glob w):Calls Tryz.prog 105 #[.string ⟨s.toArray⟩] w (PTR s w):=by
 by_cases h3:3000<s.length
 ·have hN:=Za (show parseT atoiO s=none by rw [parseT,if_pos h3])
  have q1:(3000:Int)<(s.length:Int):=by omega
  clear ha hg
  go_enter Tryz.func105,Tryz.ntmps105
  go_wp2_with fail
  go_ret2
  exact PTR.no hN.out zx
 have q1:¬((3000:Int)<(s.length:Int)):=by omega
 have aa:parseT atoiO s=(readT atoiO s).bind fun t=>if ttextE t=0/\ttextV t=s then some t else none:=by rw [parseT,if_neg h3]
 have ad:=Za (fun (w':World) (hg':Glob w')=>zqa s (by omega) ha w' hg')
 have HG:=Za hg
 clear ha hg
 cases hr:readT atoiO s with
 | none =>
  have hN:=Za (show parseT atoiO s=none by rw [aa,hr];rfl)
  have ae:=Za (fun (w':World) (hg':Glob w')=>(show Calls Tryz.prog 145 #[.string ⟨s.toArray⟩] w' (fun e w''=>∃v,e = .returned (.tuple #[v,.bool false])/\Ext w' w'') from by
   refine (ad.out w' hg').mono ?_
   rintro e w1 ⟨v,b,rfl,ac,hy,hn⟩
   cases b
   ·exact ⟨v,rfl,ac⟩
   ·obtain ⟨t,h9, -⟩:=hy rfl
    rw [hr] at h9
    cases h9))
  clear aa hr ad
  go_enter Tryz.func105,Tryz.ntmps105
  go_wp2_with (first
   | (go_at_call 145;((with_reducible refine (ae.out _ (HG.out.ext zx)).mono ?_);rintro e w1 ⟨v,rfl,ac⟩)))
  go_ret2
  exact PTR.no hN.out zx
 | some t =>
  have HR:=Za hr
  have hts:=zkM hr
  have htc:=za8 t
  rw [hr,ZV] at aa
  have ag:=Za (fun (A:Option Addr) (n cap:Nat) (w':World) (hv:Tv w' A n t) (hg':Glob w')=>zfV t (by omega) A n cap w' hv hg')
  obtain ⟨X,hX⟩:∃X,ttextE t=X:=⟨_,rfl⟩
  obtain ⟨T,hT⟩:∃T,ttextV t=T:=⟨_,rfl⟩
  rw [hX,hT] at aa
  have HX:=Za hX
  have af:=Za hT
  have ab:=Za (fun (w':World) (hg':Glob w')=>(show Calls Tryz.prog 145 #[.string ⟨s.toArray⟩] w' (fun e w''=>∃A c,e = .returned (.tuple #[.slice A t.cnt c,.bool true])/\Ext w' w''/\OwnT w'' w'.heap.size 140 (.slice A t.cnt c) t.cnt t) from by
   refine (ad.out w' hg').mono ?_
   rintro e w1 ⟨v,b,rfl,ac,hy,hn⟩
   cases b
   ·have:=hn rfl
    rw [HR.out] at this
    cases this
   ·obtain ⟨t',h9,ho⟩:=hy rfl
    rw [HR.out] at h9
    cases h9
    obtain ⟨A,c,rfl, -⟩:=zcB ho (by omega)
    exact ⟨A,c,rfl,ac,ho⟩))
  clear hr hX hT ad
  by_cases h0:X=0
  ·subst h0
   by_cases h1:T=s
   ·subst h1
    have hN:=Za (show parseT atoiO T=some t by rw [aa];simp)
    clear aa
    go_enter Tryz.func105,Tryz.ntmps105
    go_wp2_with (first
     | (go_at_call 145;((with_reducible refine (ab.out _ (HG.out.ext zx)).mono ?_);rintro e w1 ⟨A,c,rfl,ac,ho⟩;have HO:=Za ho;have HV:=Za ((zkB ho (by omega)));clear ho))
     | (go_at_call 27;((with_reducible refine (ag.out _ _ _ _ (HV.out.ext zx) (HG.out.ext zx)).mono ?_);rintro e w2 ⟨rfl,ah⟩;rw [HX.out,af.out])))
    go_ret2
    exact PTR.yes hN.out zx ((HO.out.low (Zb _)).ext zx)
   ·have hN:=Za (show parseT atoiO s=none by rw [aa];simp [h1])
    have hne:(T==s)=false:=by simpa using h1
    have hne2:(T != s)=true:=by simpa using h1
    clear aa h1
    go_enter Tryz.func105,Tryz.ntmps105
    go_wp2_with (first
     | (go_at_call 145;((with_reducible refine (ab.out _ (HG.out.ext zx)).mono ?_);rintro e w1 ⟨A,c,rfl,ac,ho⟩;have HO:=Za ho;have HV:=Za ((zkB ho (by omega)));clear ho))
     | (go_at_call 27;((with_reducible refine (ag.out _ _ _ _ (HV.out.ext zx) (HG.out.ext zx)).mono ?_);rintro e w2 ⟨rfl,ah⟩;rw [HX.out,af.out])))
    go_ret2
    exact PTR.no hN.out zx
  ·have hN:=Za (show parseT atoiO s=none by rw [aa];simp [h0])
   have hne:(X != 0)=true:=by simpa using h0
   clear aa h0
   go_enter Tryz.func105,Tryz.ntmps105
   go_wp2_with (first
    | (go_at_call 145;((with_reducible refine (ab.out _ (HG.out.ext zx)).mono ?_);rintro e w1 ⟨A,c,rfl,ac,ho⟩;have HO:=Za ho;have HV:=Za ((zkB ho (by omega)));clear ho))
    | (go_at_call 27;((with_reducible refine (ag.out _ _ _ _ (HV.out.ext zx) (HG.out.ext zx)).mono ?_);rintro e w2 ⟨rfl,ah⟩;rw [HX.out,af.out])))
   go_ret2
   exact PTR.no hN.out zx
end Go.Proofs.YtbjgpbojjhldaaaGreatDoor
/- The finder of the shortest list: the walk of list. -/
namespace Go.Proofs.YtbjgpbojjhldaaaGreatDoor
set_option maxRecDepth 100000
open Go.RowKit Go.ChangeShapes Go.WideShapes Go.Joins
theorem zmR (g n c:Nat) (A:Option Addr) (l:List St) (hn:n<=60) (hln:l.length=n) (hby:Bytes l) (hne:∀b off,A=some ⟨b,off,none⟩->b≠g):∀(M a m:Nat) (tab:Nat->Nat->Chc) (w:World),m<=M->1<=m->a+m<=n->Vec shSt w A n l->FAt w g n c A tab->(∀N,TabOk l tab N)->∀(ai mi:Int),ai=(a:Int)->mi=(m:Int) ->
  Calls Tryz.prog 53 #[.pointer (some ⟨g,0,none⟩),.int .i64 ai,.int .i64 mi] w (ListR l g n c A 140 (mkT M (sub l a m)) w):=by
 intro M
 induction M with
 | zero=>intro a m tab w h0 h1;omega
 | succ M ih =>
  intro a m tab w hM h1 aU hv ht hok ai mi aT aW
  subst aT
  subst aW
  have IH:=Za ih
  have HV:=Za hv
  have HT:=Za ht
  have az:=Za hok
  have ha:a<60:=by omega
  have hm:m<=60:=by omega
  have q0:(0:Int)<=(a:Int):=by omega
  have q1:(a:Int)<60:=by omega
  have q2:(0:Int)<=(m:Int):=by omega
  have q3:(m:Int)<61:=by omega
  have aX:=zem (l:=l) (a:=a) (n:=m) (by omega) h1
  have aE:=za4 (l:=l) (a:=a) (n:=m) (by omega)
  have ak:=zjk aX
  rw [aE] at ak
  obtain ⟨zt,aI,aH⟩:=zj7
  have aS:=Za aI
  have aR:=Za aH
  clear ih hv ht hok aI aH
  go_enter Tryz.func53,Tryz.ntmps53
  go_upto_region 3 with (first
   | (go_at_call 89;((with_reducible refine (zkh g n c A l hn hln hne m a m tab _ (Zb _) h1 aU HV.out HT.out (az.out m) _ _ rfl rfl).mono ?_);rintro e w1 ⟨tab1,rfl,hq⟩;have HQ:=Za hq;have c0:=hq.at_.tb a m 0 ha hm (by omega);have c1:=hq.at_.tb a m 1 ha hm (by omega);have c2:=hq.at_.tb a m 2 ha hm (by omega);rw [hq.it] at c0 c1 c2;rw [Nat.add_zero] at c0;have z1:=hq.at_.lt;clear hq)))
  have aa:mkT (M+1) (sub l a m)=if 0<(ch (sub l a m)).part then (mkT M ((sub l a m).take (ch (sub l a m)).part)).app (mkT M ((sub l a m).drop (ch (sub l a m)).part)) else if 0<(ch (sub l a m)).period then .cons (((sub l a m).length / (ch (sub l a m)).period:Nat):Int) st0 (mkT M ((sub l a m).take (ch (sub l a m)).period)) .nil else .cons ((sub l a m).length:Int) ((sub l a m).getD 0 st0) .nil .nil:=rfl
  obtain ⟨pt,af⟩:∃x,(ch (sub l a m)).part=x:=⟨_,rfl⟩
  obtain ⟨pd,ad⟩:∃x,(ch (sub l a m)).period=x:=⟨_,rfl⟩
  have e1:fld (ch (sub l a m)) 1=pd:=ad
  have e2:fld (ch (sub l a m)) 2=pt:=af
  rw [e1] at c1
  rw [e2] at c2
  rw [e1,e2]
  rw [af,ad,aE] at aa
  rw [af,ad] at ak
  generalize hwb:World.alloc w1 _=wb
  have aV:wb.heap.size=w1.heap.size+1:=by rw [<-hwb];simp
  have b1:wb.cell? ⟨w1.heap.size,1,none⟩=some (.int .i64 (pd:Nat)):=by rw [<-hwb];simp [go_sem]
  have b2:wb.cell? ⟨w1.heap.size,2,none⟩=some (.int .i64 (pt:Nat)):=by rw [<-hwb];simp [go_sem]
  have au:=Za (show Ext w1 wb by rw [<-hwb];exact (Ze _).alloc _)
  clear hwb c0 c1 c2
  have hb:(pt<m/\pd<m):=by
   rcases ak with ⟨hx, -⟩ | ⟨h2,h3,h4, -⟩ | ⟨h2,h3,h4, -⟩
   ·rw [hx] at af ad
    simp only at af ad
    omega
   ·omega
   ·omega
  have hd2:0<pd->2<=pd:=by
   rcases ak with ⟨hx, -⟩ | ⟨h2,h3,h4, -⟩ | ⟨h2,h3,h4, -⟩
   ·rw [hx] at ad
    simp only at ad
    omega
   ·omega
   ·omega
  have aq:=Za (show Vec shSt wb A n l from (HV.out.far HQ.out.but hne).ext au.out)
  have aw:=Za (HQ.out.all az.out)
  have ap:=Za (HQ.out.at_.ext au.out)
  have hgw:g<w.heap.size:=HT.out.lt
  have hw1:w.heap.size<=w1.heap.size:=HQ.out.but.size
  have ar:=Za (HQ.out.but.trans (But.of_ext au.out _))
  clear ak af ad e1 e2
  by_cases hp0:0<pt
  ·rw [if_pos hp0,zc6 (by omega),zhY (by omega)] at aa
   have aG:=zem (l:=l) (a:=a) (n:=pt) (by omega) (by omega)
   have hx2:=zem (l:=l) (a:=a+pt) (n:=m-pt) (by omega) (by omega)
   have k1:=zeK M (sub l a pt) aG (by rw [za4 (by omega)];omega)
   have k2:=zeK M (sub l (a+pt) (m-pt)) hx2 (by rw [za4 (by omega)];omega)
   rw [za4 (by omega)] at k1 k2
   have ag:=Za aa
   have t1:((0:Int)<(pt:Int)):=by omega
   have i1:=Zj ((a:Int)+(pt:Int)) (by omega)
   have i2:=Zj ((m:Int)-(pt:Int)) (by omega)
   clear aa aG hx2
   have E3:=Za (show (a:Int)+(pt:Int)=((a+pt:Nat):Int) by omega)
   have E4:=Za (show (m:Int)-(pt:Int)=((m-pt:Nat):Int) by omega)
   clear b1
   go_upto_region 4 with fail
   go_region_held3 (fun w'=>w'.cell? ⟨w1.heap.size,2,none⟩=some (.int .i64 (pt:Nat))) (go_keep)
    (first
     | (go_at_call 53;(first
      | ((with_reducible refine (IH.out (a+pt) (m-pt) _ _ (by omega) (by omega) (by omega) (aQ.out.ext zx) (av.out.ext zx) ax.out _ _ E3.out E4.out).mono ?_);rintro e w3 ⟨v2,tab3,rfl,aB,aD,aA,aF⟩;have aK:=Za aB;have aO:=Za aD;have ay:=Za ((But.of_ext zx (some g)).trans aA:But (some g) w2 w3);have aN:=Za (show OwnT w3 w2.heap.size 140 v2 (mkT M (sub l (a+pt) (m-pt))).cnt (mkT M (sub l (a+pt) (m-pt))) from aF);have b4:=(But.cell (p:=⟨w1.heap.size,2,none⟩) ay.out (by have:=ab.out.size;show w1.heap.size<w2.heap.size;omega) (by intro e9;have e8:w1.heap.size=g:=(by simpa using e9);omega)).trans b3;clear aB aD aA aF)
      | (((with_reducible refine (IH.out a pt _ _ (by omega) (by omega) (by omega) (aq.out.ext zx) (ap.out.ext zx) aw.out _ _ rfl rfl).mono ?_);rintro e w2 ⟨v1,tab2,rfl,aj,al,ah,ao⟩;have av:=Za aj;have ax:=Za al;have ab:=Za ((But.of_ext zx (some g)).trans ah:But (some g) wb w2);have aQ:=Za (aq.out.far ab.out hne);have aM:=Za (show OwnT w2 wb.heap.size 140 v1 (mkT M (sub l a pt)).cnt (mkT M (sub l a pt)) from ao);have b3:=(But.cell (p:=⟨w1.heap.size,2,none⟩) ab.out (by show w1.heap.size<wb.heap.size;omega) (by intro e9;have e8:w1.heap.size=g:=(by simpa using e9);omega)).trans b2;clear aj al ah ao))))
     | (refine zdK (g:=g) 46 140 zt 56 (by rfl) (by rfl) Tryz.underlying46 aS.out aR.out (by omega) (by rfl) (by rfl) aM.out aN.out ab.out ay.out (by omega) (by omega) ?_;intro v' w4 am ac ae;have b5:=(But.cell (p:=⟨w1.heap.size,2,none⟩) ac.out (by show w1.heap.size<wb.heap.size;omega) (by intro e9;have e8:w1.heap.size=g:=(by simpa using e9);omega)).trans b2))
   go_wp2
   go_ret
   rw [ag.out]
   exact ⟨_,tab3,rfl,ae.out _ _ _ _ aK.out,aO.out,ar.out.trans ac.out,by rw [zf3];exact am.low (by omega)⟩
  have t1:¬((0:Int)<(pt:Int)):=by omega
  rw [if_neg hp0] at aa
  by_cases hp1:0<pd
  ·rw [if_pos hp1,zc6 (by omega)] at aa
   have ag:=Za aa
   have t2:((0:Int)<(pd:Int)):=by omega
   have k1:=zeK M (sub l a pd) (zem (l:=l) (by omega) (by omega)) (by rw [za4 (by omega)];omega)
   rw [za4 (by omega)] at k1
   have tz:¬pd=0:=by omega
   obtain ⟨q,hq⟩:∃q,m / pd=q:=⟨_,rfl⟩
   have td2:(m:Int) / (pd:Int)=(q:Int):=by rw [<-hq];rfl
   have td:(m:Int).tdiv (pd:Int)=(q:Int):=by rw [Int.tdiv_eq_ediv_of_nonneg (by omega)];exact td2
   have hqm:q<=m:=by rw [<-hq];exact Nat.div_le_self _ _
   have tw:=Zj (q:Int) (by omega)
   have aP:=Za hq
   clear hq
   clear aa
   go_upto_region 6 with fail
   go_region_held3 (fun w'=>w'.cell? ⟨w1.heap.size,1,none⟩=some (.int .i64 (pd:Nat))) (go_keep)
    (first
     | (go_at_call 53;((with_reducible refine (IH.out a pd _ _ (by omega) (by omega) (by omega) (aq.out.ext zx) (ap.out.ext zx) aw.out _ _ rfl rfl).mono ?_);rintro e w2 ⟨v1,tab2,rfl,aj,al,ah,ao⟩;obtain ⟨A2,c2,rfl,aC⟩:=zcB ao (by omega);have av:=Za aj;have ax:=Za al;have ab:=Za ((But.of_ext zx (some g)).trans ah:But (some g) wb w2);have aL:=Za (show TvK w2 (fun b=>wb.heap.size<=b) A2 (mkT M (sub l a pd)).cnt (mkT M (sub l a pd)) from aC);have b3:=(But.cell (p:=⟨w1.heap.size,1,none⟩) ab.out (by show w1.heap.size<wb.heap.size;omega) (by intro e9;have e8:w1.heap.size=g:=(by simpa using e9);omega)).trans b1;clear aj al ah ao aC)))
   all_goals (go_wp2;go_ret;rw [ag.out,aP.out];exact ⟨_,tab2,rfl,av.out.ext ((Ze _).alloc _),ax.out,(ar.out.trans ab.out).trans (But.of_ext ((Ze _).alloc _) _),zkA w2 w.heap.size 140 (q:Int) 0 false 0 0 (by have:=ab.out.size;omega) (by omega) (aL.out.mono fun b _ hb=>by omega)⟩)
  have t2:¬((0:Int)<(pd:Int)):=by omega
  rw [if_neg hp1,zg3 (by omega),Nat.add_zero] at aa
  have ag:=Za aa
  have aJ:=Za (hby a (by omega))
  clear aa hby
  obtain ⟨b,off,rfl,hb,hc⟩:=Sts.all aq.out (by omega)
  obtain ⟨k1,k2,k3,k4⟩:=hc a (by omega)
  have g0:=ap.out.hd
  have t3:(a:Int)<(n:Int):=by omega
  generalize hs:l.getD a st0=s at *
  obtain ⟨s1,s2,s3,s4⟩:=s
  simp only at k1 k2 k3 k4
  have n1:((a:Int)).toNat=a:=by omega
  go_wp2_with fail
  go_ret
  rw [ag.out]
  exact ⟨_,tab1,rfl,ap.out.ext ((Ze _).alloc _),aw.out,ar.out.trans (But.of_ext ((Ze _).alloc _) _),by
   rw [<-aV]
   exact zkA wb w.heap.size 140 (m:Int) s1 s2 s3 s4 (by omega) aJ.out (TvK.none_ _ _ _)⟩
end Go.Proofs.YtbjgpbojjhldaaaGreatDoor
/- Find of the shortest list. -/
namespace Go.Proofs.YtbjgpbojjhldaaaGreatDoor
set_option maxRecDepth 100000
open Go.RowKit Go.ChangeShapes Go.WideShapes Go.Joins
def findE (l:List St):Int:=if 60<l.length then 4 else if allB l=true then 0 else 8
def findL (l:List St):Tms:=if findE l=0 then findT l else .nil
def FindR (l:List St) (w:World) (e:Ending) (w':World):Prop :=
 ∃(A:Option Addr) (c:Nat),e = .returned (.tuple #[.slice A (findL l).cnt c,.int .i64 (findE l)])/\Ext w w'/\TvK w' (fun b=>w.heap.size<=b) A (findL l).cnt (findL l)
theorem FindR.none_ {l:List St} {w w':World} {x:Int} (hx:findE l=x) (h0:x≠0) (h:Ext w w'):FindR l w (.returned (.tuple #[.slice none 0 0,.int .i64 x])) w':=by
 have h1:findL l = .nil:=by rw [findL,if_neg (by rw [hx];exact h0)]
 exact ⟨none,0,by rw [h1,hx];rfl,h,by rw [h1];exact TvK.none_ _ _ _⟩
theorem zmj (n c:Nat) (A:Option Addr) (l:List St) (w:World) (hl:Vec shSt w A n l) (hby:Bytes l) (hn:n<=maxLen) :
  Calls Tryz.prog 26 #[.slice A n c] w (FindR l w):=by
 have HX:=Za hl
 have aa:=hl.1
 unfold maxLen at hn
 by_cases hn60:60<n
 ·have q1:((60:Int)<(n:Int)):=by omega
  have HE:=Za (show findE l=4 by rw [findE,if_pos (by omega)])
  clear hl
  go_enter Tryz.func26,Tryz.ntmps26
  go_wp2_with fail
  go_ret2
  exact FindR.none_ HE.out (by decide) zx
 have q1:¬((60:Int)<(n:Int)):=by omega
 clear hl
 go_enter Tryz.func26,Tryz.ntmps26
 go_wp2_with fail
 go_loopw [12] (fun i wr=>∃k:Nat,i = .int .i64 k/\k<=n/\Hid (∀j,j<k->okSt (l.getD j st0)=true)/\Hid (Ext w wr)) (fun i _=>n-(intOf i).toNat)
 case atStart=>exact ⟨0,rfl,by omega,Za (fun j hj=>absurd hj (by omega)),Za zx⟩
 case round =>
  obtain ⟨k,rfl,hk,HA,HE⟩:=hrel
  have hx:=HE.out
  by_cases hlt:k<n
  ·obtain ⟨b,off,rfl,hb,hc⟩:=Sts.all (HX.out.ext hx) (by omega)
   obtain ⟨c1,c2,c3,c4⟩:=hc k hlt
   have ab:=hby k (by omega)
   have q0:(0:Int)<=(k:Int):=by omega
   have q2:(k:Int)<(n:Int):=by omega
   have ad:=Za (show okSt (l.getD k st0)=false->findE l=8 from fun h=>by rw [findE,if_neg (by omega),if_neg (by rw [zhd (n:=n) (k:=k) aa hlt h];simp)])
   have ac:=Za (show okSt (l.getD k st0)=true->∀j,j<k+1->okSt (l.getD j st0)=true from fun h j hj=>by
    by_cases e:j=k
    ·subst e;exact h
    ·exact HA.out j (by omega))
   clear hc
   generalize hs:l.getD k st0=s at *
   obtain ⟨s1,s2,s3,s4⟩:=s
   simp only at c1 c2 c3 c4 ab
   clear hs
   cases hok:okSt ⟨s1,s2,s3,s4⟩
   case false =>
    have HQ:=Za (show okE ⟨s1,s2,s3,s4⟩=8 by rw [okE,hok];rfl)
    have HF:=Za (ad.out hok)
    clear ad ac hok
    go_wp2_with (first
     | (go_at_call 52;((with_reducible refine (zaG s1 s2 s3 s4 ab.1 ab.2 _).mono ?_);rintro e w2 ⟨rfl,hq⟩;rw [HQ.out])))
    go_ret2
    exact FindR.none_ HF.out (by decide) zx
   case true =>
    have HQ:=Za (show okE ⟨s1,s2,s3,s4⟩=0 by rw [okE,hok];rfl)
    have al:=Za (ac.out hok)
    clear ad ac hok
    go_wp2_with (first
     | (go_at_call 52;((with_reducible refine (zaG s1 s2 s3 s4 ab.1 ab.2 _).mono ?_);rintro e w2 ⟨rfl,hq⟩;rw [HQ.out])))
    go_roundw
    case rel=>exact ⟨k+1,by go_num,by omega,al,Za zx⟩
    case measure=>simp [intOf];omega
  ·obtain rfl:k=n:=by omega
   have af:=zi9 aa HA.out
   have HB:=Za af
   by_cases hn0:k=0
   ·subst hn0
    go_wp2_with fail
    go_ret2
    have e1:l=[]:=Zz aa
    subst e1
    exact ⟨none,0,rfl,HE.out,TvK.none_ _ _ _⟩
   have aj:¬((k:Int)=0):=by omega
   have au:((k:Int)==0)=false:=by rw [ZC];exact aj
   obtain ⟨Z,hZ,ae,ag⟩:=zg9 wr
   have hZe:¬(Z=#[]):=by rintro rfl;simp at ae
   have HF:=Za (FAt.new_ wr (t:=103) A k c ae ag)
   have ap:=Za (show ∀b off,A=some ⟨b,off,none⟩->b≠wr.heap.size from fun b off e=>by
    obtain ⟨b',off',e',hb,_⟩:=HX.out.2 (by omega)
    rw [e] at e'
    cases e'
    have:=Zt hx
    omega)
   have HV:=Za (HX.out.ext (hx.trans ((Ze wr).alloc (Obj.cells (Z.setIfInBounds 0 (Value.slice A k c)) 103))))
   have HW:=Za (show Ext w (wr.alloc (Obj.cells (Z.setIfInBounds 0 (Value.slice A k c)) 103)) from hx.trans ((Ze _).alloc _))
   have hsz:(wr.alloc (Obj.cells (Z.setIfInBounds 0 (Value.slice A k c)) 103)).heap.size=wr.heap.size+1:=by simp
   clear ae ag
   have aq:=Za (show (0:Int)=((0:Nat):Int) from rfl)
   go_upto_region 12 with (fail)
   generalize hwf:wr.alloc (Obj.cells (Z.setIfInBounds 0 (Value.slice A k c)) 103)=wf at *
   clear hZ hwf aj au
   have hcnt:=zeK k l (by rintro rfl;simp at aa;omega) (by omega)
   go_wp2_with (first
    | (go_at_call 53;((with_reducible refine (zmR wr.heap.size k c A l (by omega) aa hby ap.out k 0 k _ _ (Zb _) (by omega) (by omega) HV.out HF.out (TabOk.empty l) (0:Int) (k:Int) aq.out rfl).mono ?_);rw [show sub l 0 k=l by rw [<-aa];exact zqp l];rintro e w2 ⟨v1,tab2,rfl,ar,av,ah,ak⟩;obtain ⟨A2,c2,rfl,ai⟩:=zcB ak (by omega);have am:=Za ah;have ao:=Za ai;clear ar av ah ak ai)))
   go_ret2
   have hE:findE l=0:=by rw [findE,if_neg (by omega),if_pos HB.out]
   have hL:findL l=mkT k l:=by rw [findL,if_pos hE,findT,if_neg (by rintro rfl;simp at aa;omega),aa]
   have aw:=Zt hx
   refine ⟨A2,c2,by rw [hE,hL];rfl,?_,by rw [hL];exact ao.out.mono fun b _ hb=>by omega⟩
   exact Below.trans HW.out (am.out.below (by omega) (fun k h=>by cases h;exact aw))
end Go.Proofs.YtbjgpbojjhldaaaGreatDoor
/- console.write. -/
namespace Go.Proofs.YtbjgpbojjhldaaaGreatDoor
set_option maxRecDepth 100000
open Go.RowKit Go.ChangeShapes Go.WideShapes Go.Joins
theorem znu {n:Nat} {g:List St} (h:allB g=true):allB (rep n g)=true:=by
 induction n with
 | zero=>rfl
 | succ n ih=>rw [rep,zes,h,ih];rfl
theorem zjE:∀ {t:Tms},fineT t=true->allB t.cells=true/\t.pos:=by
 intro t
 induction t with
 | nil=>intro _;exact ⟨rfl,trivial⟩
 | cons N c g r ih1 ih2 =>
  intro h
  obtain ⟨hn,hg,hr,hc, -⟩:=zcw h
  obtain ⟨a1,a2⟩:=ih1 hg
  obtain ⟨b1,b2⟩:=ih2 hr
  refine ⟨?_,hn.1,a2,b2⟩
  rw [ze6,zes,b1,Bool.and_true]
  apply znu
  by_cases h0:g = .nil
  ·subst h0
   rw [zgM]
   simp [allB,hc rfl]
  ·rw [zgL c (by cases g with | nil=>exact absurd rfl h0 | cons=>simp [Tms.cnt])]
   exact a1
theorem zoQ {T:List UInt8} {w:List UInt8} (h:w=kWords∨w=kShortest) (hx:parseL T=none):wrtV atoiO w T=([],12):=by
 rcases h with rfl | rfl
 ·rw [wrtV,if_neg (by decide),if_neg (by decide),hx]
 ·rw [wrtV,if_neg (by decide),if_neg (by decide),hx]
theorem zsq {T:List UInt8} {l:List St} (hx:parseL T=some l):wrtV atoiO kWords T=(wcV l,wcE l):=by
 rw [wrtV,if_neg (by decide),if_neg (by decide),hx]
 exact if_pos rfl
theorem zsp {T:List UInt8} {l:List St} (hx:parseL T=some l):wrtV atoiO kShortest T=fndV l:=by
 rw [wrtV,if_neg (by decide),if_neg (by decide),hx]
 exact if_neg (by decide)
theorem zfO {T:List UInt8} (hT:T.length<=1000000) (hx:parseL T=none) (w:World) (hg:Glob w) :
  Calls Tryz.prog 107 #[.string ⟨T.toArray⟩] w fun e w'=>(∃A c,e = .returned (.tuple #[.slice A 0 c,.int .i64 12]))/\Ext w w':=by
 obtain ⟨e0,e1⟩:=zcC hx
 refine (zdB T (by omega) w hg).mono ?_
 rintro e w' ⟨v,he,ho,hq⟩
 obtain ⟨A,c,rfl,hv⟩:=zao ho
 rw [e0,e1] at he
 exact ⟨⟨A,c,he⟩,hq⟩
theorem zel {T:List UInt8} {l:List St} (hT:T.length<=1000000) (hx:parseL T=some l) (w:World) (hg:Glob w) :
  Calls Tryz.prog 107 #[.string ⟨T.toArray⟩] w fun e w'=>(∃A c,e = .returned (.tuple #[.slice A l.length c,.int .i64 0])/\Vec shSt w' A l.length l)/\Ext w w':=by
 obtain ⟨e0,e1⟩:=zbK hx
 refine (zdB T (by omega) w hg).mono ?_
 rintro e w' ⟨v,he,ho,hq⟩
 obtain ⟨A,c,rfl,hv⟩:=zao ho
 rw [e0,e1] at he
 rw [e1] at hv
 exact ⟨⟨A,c,he,hv⟩,hq⟩
theorem zlr {T:List UInt8} (hT:T.length<=1000000) (hx:parseT atoiO T=none) (w:World) (hg:Glob w) :
  Calls Tryz.prog 105 #[.string ⟨T.toArray⟩] w fun e w'=>e = .returned (.tuple #[.slice none 0 0,.int .i64 12])/\Ext w w':=by
 refine (zhH T hT trivial w hg).mono ?_
 rintro e w' ⟨v,x,he,hq,hc⟩
 rcases hc with ⟨-,rfl,rfl⟩ | ⟨t,h1, -, -⟩
 ·exact ⟨he,hq⟩
 ·rw [hx] at h1;cases h1
theorem zi2 {T:List UInt8} {t:Tms} (hT:T.length<=1000000) (hx:parseT atoiO T=some t) (hs:t.size<=200) (w:World) (hg:Glob w) :
  Calls Tryz.prog 105 #[.string ⟨T.toArray⟩] w fun e w'=>(∃A c,e = .returned (.tuple #[.slice A t.cnt c,.int .i64 0])/\Tv w' A t.cnt t)/\Ext w w':=by
 refine (zhH T hT trivial w hg).mono ?_
 rintro e w' ⟨v,x,he,hq,hc⟩
 rcases hc with ⟨h1, -, -⟩ | ⟨t',h1,rfl,ho⟩
 ·rw [hx] at h1;cases h1
 ·rw [hx] at h1
  cases h1
  have hn:=za8 t
  obtain ⟨A,c,rfl,hv⟩:=zcB ho (by omega)
  exact ⟨⟨A,c,he,hv.tv⟩,hq⟩
theorem zgf (T:List UInt8) (hT:T.length<=1000000) (w:World) (hg:Glob w) :
  Calls Tryz.prog 64 #[.string ⟨kCells.toArray⟩,.string ⟨T.toArray⟩] w (AnsR w (wrtV atoiO kCells T)):=by
 have HGL:=Za hg
 have HP:=Za (fun w' h=>zi7 T (by omega) w' h)
 rcases hx:pcL T with _ | l
 ·rw [hx] at HP
  have HV:=Za (show wrtV atoiO kCells T=([],12) by rw [wrtV,if_pos rfl,hx])
  clear hx hT hg
  go_enter Tryz.func64,Tryz.ntmps64
  go_wp2_with (first
   | (go_at_call 104;((with_reducible refine (HP.out _ (HGL.out.ext zx)).mono ?_);rintro e5 w5 ⟨hq5,rfl⟩;have HX5:=Za (show Ext w w5 from zx);clear hq5)))
  go_ret2
  rw [HV.out]
  exact ⟨rfl,HX5.out.trans zx⟩
 ·have hi:=zoB.1 hx
  have h0:=hi.2.1
  have HL:=Za (zaZ h0).1
  have ac:=Za (zbI (zaZ h0).2.1)
  have ht:textG l=textL l:=by rw [textG,if_pos h0]
  rw [hx] at HP
  have HV:=Za (show wrtV atoiO kCells T=(textL l,0) by rw [wrtV,if_pos rfl,hx])
  have HS:=Za (fun A c w' (h:Vec shSt w' A l.length l) (hG:Glob w')=>zdM l.length c A l w' h (by have:=HL.out;unfold maxLen;omega) ac.out hG)
  rw [ht,h0] at HS
  obtain ⟨r,hr⟩:∃r,textL l=r:=⟨_,rfl⟩
  rw [hr] at HS HV
  clear hx hT hg hi h0 ht hr
  go_enter Tryz.func64,Tryz.ntmps64
  go_wp2_with (first
   | (go_at_call 104;((with_reducible refine (HP.out _ (HGL.out.ext zx)).mono ?_);rintro e5 w5 ⟨hq5,v5,rfl,aa⟩;have HX5:=Za (show Ext w w5 from zx);obtain ⟨A5,c5,rfl,ab⟩:=zao aa;have ad:=Za ab;clear aa ab;clear hq5))
   | (go_at_call 24;((with_reducible refine (HS.out _ _ _ (ad.out.ext zx) (HGL.out.ext (HX5.out.trans zx))).mono ?_);rintro e6 w6 ⟨rfl,hq6⟩;have HX6:=Za (HX5.out.trans (show Ext w5 w6 from zx));clear hq6)))
  go_ret2
  rw [HV.out]
  exact ⟨rfl,HX6.out.trans zx⟩
theorem zZ8 {p:Prop} (h:p:=by
 clear hx hT hg
 go_enter Tryz.func64,Tryz.ntmps64
 go_wp2_with (first
  | (go_at_call 107;((with_reducible refine (HP.out _ (HGL.out.ext zx)).mono ?_);rintro e5 w5 ⟨⟨A5,c5,rfl⟩,hq5⟩;have HX5:=Za (show Ext w w5 from zx);clear hq5)))
 go_ret2
 rw [HV.out]
 exact ⟨rfl,HX5.out.trans zx⟩):p:=h
theorem zdW (T:List UInt8) (hT:T.length<=1000000) (hx:parseL T=none) (w:World) (hg:Glob w) :
  Calls Tryz.prog 64 #[.string ⟨kWords.toArray⟩,.string ⟨T.toArray⟩] w (AnsR w (wrtV atoiO kWords T)):=by
 have HGL:=Za hg
 have HP:=Za (fun w' h=>zfO hT hx w' h)
 have HV:=Za (zoQ (.inl rfl) hx)
 exact zZ8
theorem zdV (T:List UInt8) (hT:T.length<=1000000) (hx:parseL T=none) (w:World) (hg:Glob w) :
  Calls Tryz.prog 64 #[.string ⟨kShortest.toArray⟩,.string ⟨T.toArray⟩] w (AnsR w (wrtV atoiO kShortest T)):=by
 have HGL:=Za hg
 have HP:=Za (fun w' h=>zfO hT hx w' h)
 have HV:=Za (zoQ (.inr rfl) hx)
 exact zZ8
theorem zgh (T:List UInt8) (hT:T.length<=1000000) (w:World) (hg:Glob w) :
  Calls Tryz.prog 64 #[.string ⟨kWords.toArray⟩,.string ⟨T.toArray⟩] w (AnsR w (wrtV atoiO kWords T)):=by
 rcases hx:parseL T with _ | l
 ·exact zdW T hT hx w hg
 ·have HGL:=Za hg
  have HP:=Za (fun w' h=>zel hT hx w' h)
  have h0:=(zch.1 hx).2.1
  have HL:=Za (zaZ h0).1
  have ab:=Za (zbI (zaZ h0).2.1)
  have HV:=Za (zsq hx)
  have HS:=Za (fun A c w' (h:Vec shSt w' A l.length l) (hG:Glob w')=>zi4 l.length c A l w' h (by have:=HL.out;unfold maxLen;omega) ab.out hG)
  obtain ⟨r,hr⟩:∃r,wcV l=r:=⟨_,rfl⟩
  obtain ⟨x,hxx⟩:∃x,wcE l=x:=⟨_,rfl⟩
  rw [hr,hxx] at HS HV
  clear hx hT hg h0 hr hxx
  go_enter Tryz.func64,Tryz.ntmps64
  go_wp2_with (first
   | (go_at_call 107;((with_reducible refine (HP.out _ (HGL.out.ext zx)).mono ?_);rintro e5 w5 ⟨⟨A5,c5,rfl,aa⟩,hq5⟩;have HX5:=Za (show Ext w w5 from zx);have ac:=Za aa;clear aa;clear hq5))
   | (go_at_call 25;((with_reducible refine (HS.out _ _ _ (ac.out.ext zx) (HGL.out.ext (HX5.out.trans zx))).mono ?_);rintro e6 w6 ⟨rfl,hq6⟩;have HX6:=Za (HX5.out.trans (show Ext w5 w6 from zx));clear hq6)))
  go_ret2
  rw [HV.out]
  exact ⟨rfl,HX6.out.trans zx⟩
theorem zpf {l:List St} (h:allB l=true) (h60:l.length<=60):findE l=0/\findL l=findT l/\(findT l).size<=60:=by
 have h0:findE l=0:=by rw [findE,if_neg (by omega),if_pos h]
 refine ⟨h0,by rw [findL,if_pos h0],?_⟩
 cases l with
 | nil=>decide
 | cons a l=>exact (zii (by simp) h60).1
theorem zpe {l:List St} (h60:60<l.length):findE l=4/\findL l = .nil:=by
 have h0:findE l=4:=by rw [findE,if_pos h60]
 exact ⟨h0,by rw [findL,if_neg (by rw [h0];decide)]⟩
theorem zgg (T:List UInt8) (hT:T.length<=1000000) (w:World) (hg:Glob w) :
  Calls Tryz.prog 64 #[.string ⟨kShortest.toArray⟩,.string ⟨T.toArray⟩] w (AnsR w (wrtV atoiO kShortest T)):=by
 rcases hx:parseL T with _ | l
 ·exact zdV T hT hx w hg
 ·have HGL:=Za hg
  have HP:=Za (fun w' h=>zel hT hx w' h)
  have h0:=(zch.1 hx).2.1
  have HL:=Za (zaZ h0).1
  have ha:=(zaZ h0).2.1
  have ae:=Za (zbI ha)
  have hv:=zsp hx
  have HF:=Za (show ∀A c w',Vec shSt w' A l.length l->Calls Tryz.prog 26 #[.slice A l.length c] w' (FindR l w') from fun A c w' h=>zmj l.length c A l w' h ae.out (by have:=HL.out;unfold maxLen;omega))
  simp only [fndV] at hv
  by_cases h60:60<l.length
  ·have HV:=Za (hv.trans (if_pos h60))
   obtain ⟨e1,e2⟩:=zpe h60
   have ab:=Za (show ∀A c w',Vec shSt w' A l.length l->Calls Tryz.prog 26 #[.slice A l.length c] w' (fun e w''=>(∃B d,e = .returned (.tuple #[.slice B 0 d,.int .i64 4]))/\Ext w' w'') from fun A c w' h=>(HF.out A c w' h).mono (by rintro e w'' ⟨B,d,he,hq, -⟩;rw [e1,e2] at he;exact ⟨⟨B,d,he⟩,hq⟩))
   clear hx hT hg h0 hv HF e1 e2 ha h60
   go_enter Tryz.func64,Tryz.ntmps64
   go_wp2_with (first
    | (go_at_call 107;((with_reducible refine (HP.out _ (HGL.out.ext zx)).mono ?_);rintro e5 w5 ⟨⟨A5,c5,rfl,aa⟩,hq5⟩;have HX5:=Za (show Ext w w5 from zx);have ac:=Za aa;clear aa;clear hq5))
    | (go_at_call 26;((with_reducible refine (ab.out _ _ _ (ac.out.ext zx)).mono ?_);rintro e6 w6 ⟨⟨B6,d6,rfl⟩,hq6⟩;have HX6:=Za (HX5.out.trans (show Ext w5 w6 from zx));clear hq6)))
   go_ret2
   rw [HV.out]
   exact ⟨rfl,HX6.out.trans zx⟩
  ·have HV:=Za (hv.trans (if_neg h60))
   obtain ⟨e1,e2,e3⟩:=zpf ha (by omega)
   obtain ⟨t,ht⟩:∃t,findT l=t:=⟨_,rfl⟩
   rw [ht] at e2 e3 HV
   have ab:=Za (show ∀A c w',Vec shSt w' A l.length l->Calls Tryz.prog 26 #[.slice A l.length c] w' (fun e w''=>(∃B d,e = .returned (.tuple #[.slice B t.cnt d,.int .i64 0])/\Tv w'' B t.cnt t)/\Ext w' w'') from fun A c w' h=>(HF.out A c w' h).mono (by rintro e w'' ⟨B,d,he,hq,hk⟩;rw [e1,e2] at he;rw [e2] at hk;exact ⟨⟨B,d,he,hk.tv⟩,hq⟩))
   have HT:=Za (show ∀A c w',Tv w' A t.cnt t->Glob w'->Calls Tryz.prog 27 #[.slice A t.cnt c] w' (TxR t w') from fun A c w' h hG=>zfV t (by omega) A t.cnt c w' h hG)
   clear hx hT hg h0 hv HF e1 e2 e3 ha h60 ht
   go_enter Tryz.func64,Tryz.ntmps64
   go_wp2_with (first
    | (go_at_call 107;((with_reducible refine (HP.out _ (HGL.out.ext zx)).mono ?_);rintro e5 w5 ⟨⟨A5,c5,rfl,aa⟩,hq5⟩;have HX5:=Za (show Ext w w5 from zx);have ac:=Za aa;clear aa;clear hq5))
    | (go_at_call 26;((with_reducible refine (ab.out _ _ _ (ac.out.ext zx)).mono ?_);rintro e6 w6 ⟨⟨B6,d6,rfl,ad⟩,hq6⟩;have HX6:=Za (HX5.out.trans (show Ext w5 w6 from zx));have af:=Za ad;clear ad;clear hq6))
    | (go_at_call 27;((with_reducible refine (HT.out _ _ _ (af.out.ext zx) (HGL.out.ext (HX6.out.trans zx))).mono ?_);rintro e7 w7 ⟨rfl,ah⟩;have ag:=Za (HX6.out.trans (show Ext w6 w7 from zx));clear ah)))
   go_ret2
   rw [HV.out]
   exact ⟨rfl,ag.out.trans zx⟩
theorem zjv (hat:∀k:Nat,2<=k->k<=200->atoiO (decD k)=some (k:Int)) (T:List UInt8) (hT:T.length<=1000000) (w:World) (hg:Glob w) :
  Calls Tryz.prog 64 #[.string ⟨kExpand.toArray⟩,.string ⟨T.toArray⟩] w (AnsR w (wrtV atoiO kExpand T)):=by
 have HGL:=Za hg
 have hv:wrtV atoiO kExpand T=(match parseT atoiO T with
  | none=>([],12)
  | some t=>if tchkE t≠0 then ([],tchkE t) else if allE t.cells≠0 then ([],allE t.cells) else (textL t.cells,0)):=by
  rw [wrtV,if_neg (by decide),if_pos rfl]
  cases parseT atoiO T <;> rfl
 rcases hx:parseT atoiO T with _ | t
 ·have HP:=Za (fun w' h=>zlr hT hx w' h)
  rw [hx] at hv
  have HV:=Za hv
  clear hx hT hg hv hat
  go_enter Tryz.func64,Tryz.ntmps64
  go_wp2_with (first
   | (go_at_call 105;((with_reducible refine (HP.out _ (HGL.out.ext zx)).mono ?_);rintro e5 w5 ⟨rfl,hq5⟩;have HX5:=Za (show Ext w w5 from zx);clear hq5)))
  go_ret2
  rw [HV.out]
  exact ⟨rfl,HX5.out.trans zx⟩
 ·have hi:=(ziE hat).1 hx
  have h0:=hi.2.1
  obtain ⟨s1, -,s3,s4⟩:=zoM h0
  have ha:=zjE s3
  have aa:=Za (zbI ha.1)
  have HP:=Za (fun w' h=>zi2 hT hx s1 w' h)
  rw [hx] at hv
  have ab:=Za (show ∀A c w',Tv w' A t.cnt t->Calls Tryz.prog 106 #[.slice A t.cnt c] w' (fun e w''=>(∃B d,e = .returned (.tuple #[.slice B t.cells.length d,.int .i64 0])/\Vec shSt w'' B t.cells.length t.cells)/\Ext w' w'') from fun A c w' h=>(znP t (by omega) A t.cnt c w' h).mono (by
   rintro e w'' ⟨B,n,d,he,hq,hk, -⟩
   rw [h0] at he
   rw [if_pos h0] at hk
   obtain rfl:t.cells.length=n:=hk.1
   exact ⟨⟨B,d,he,hk⟩,hq⟩))
  have HS:=Za (show ∀A c w',Vec shSt w' A t.cells.length t.cells->Glob w'->Calls Tryz.prog 24 #[.slice A t.cells.length c] w' fun e w''=>e = .returned (.tuple #[.string ⟨(textG t.cells).toArray⟩,.int .i64 (allE t.cells)])/\Ext w' w'' from fun A c w' h hG=>zdM t.cells.length c A t.cells w' h (by unfold maxLen;omega) aa.out hG)
  have ae:wrtV atoiO kExpand T=(textG t.cells,allE t.cells):=by
   rw [hv]
   simp only [h0,ne_eq,not_true_eq_false,if_false]
   by_cases h2:allE t.cells=0
   ·rw [if_neg (by simpa using h2),textG,if_pos h2,h2]
   ·rw [if_pos (by simpa using h2),textG,if_neg h2]
  have HV:=Za ae
  obtain ⟨L,hL⟩:∃L,t.cells=L:=⟨_,rfl⟩
  rw [hL] at HV HS ab
  obtain ⟨r,hr⟩:∃r,textG L=r:=⟨_,rfl⟩
  obtain ⟨x,hxx⟩:∃x,allE L=x:=⟨_,rfl⟩
  rw [hr,hxx] at HS HV
  clear hx hT hg hv hat hi h0 s1 s3 s4 ha aa ae hL hr hxx
  go_enter Tryz.func64,Tryz.ntmps64
  go_wp2_with (first
   | (go_at_call 105;((with_reducible refine (HP.out _ (HGL.out.ext zx)).mono ?_);rintro e5 w5 ⟨⟨A5,c5,rfl,ac⟩,hq5⟩;have HX5:=Za (show Ext w w5 from zx);have af:=Za ac;clear ac;clear hq5))
   | (go_at_call 106;((with_reducible refine (ab.out _ _ _ (af.out.ext zx)).mono ?_);rintro e6 w6 ⟨⟨B6,d6,rfl,ad⟩,hq6⟩;have HX6:=Za (HX5.out.trans (show Ext w5 w6 from zx));have ag:=Za ad;clear ad;clear hq6))
   | (go_at_call 24;((with_reducible refine (HS.out _ _ _ (ag.out.ext zx) (HGL.out.ext (HX6.out.trans zx))).mono ?_);rintro e7 w7 ⟨rfl,ai⟩;have ah:=Za (HX6.out.trans (show Ext w6 w7 from zx));clear ai)))
  go_ret2
  rw [HV.out]
  exact ⟨rfl,ah.out.trans zx⟩
end Go.Proofs.YtbjgpbojjhldaaaGreatDoor
/- The library contracts that this claim uses besides,laid at its program by the kit (lay-shelf,lay-plain) and cut down to those. -/
namespace Go.Proofs
open Go.Shelf
def Tryz.lays189_ren:Go.Shelf.Ren:=⟨fun | 189=>136 | 125=>175 | 257=>174 | 128=>216 | 129=>201 | 294=>207 | 295=>208 | 296=>209 | 297=>210 | 298=>211 | 299=>212 | 216=>213 | 300=>214 | 301=>215 | 328=>230 | 329=>231 | 330=>232 | 331=>233 | 332=>234 | 215=>235 | 343=>245 | n=>n,fun | 28=>51 | 3=>3 | 46=>191 | 0=>0 | 51=>237 | 53=>228 | 4=>4 | 183=>275 | 182=>274 | 131=>118 | 5=>5 | 9=>9 | 218=>301 | 222=>305 | 228=>316 | 229=>93 | n=>n,fun | n=>n⟩
theorem Tryz.lays189:Go.Proofs.Lays.n189 Tryz.prog Tryz.lays189_ren:={
 mixed:=by kernel_rfl
 f125:=Tryz.func175.trans (congrArg some (by kernel_rfl))
 f128:=Tryz.func216.trans (congrArg some (by kernel_rfl))
 f129:=Tryz.func201.trans (congrArg some (by kernel_rfl))
 f189:=Tryz.func136.trans (congrArg some (by kernel_rfl))
 f215:=Tryz.func235.trans (congrArg some (by kernel_rfl))
 f216:=Tryz.func213.trans (congrArg some (by kernel_rfl))
 f257:=Tryz.func174.trans (congrArg some (by kernel_rfl))
 f294:=Tryz.func207.trans (congrArg some (by kernel_rfl))
 f295:=Tryz.func208.trans (congrArg some (by kernel_rfl))
 f296:=Tryz.func209.trans (congrArg some (by kernel_rfl))
 f297:=Tryz.func210.trans (congrArg some (by kernel_rfl))
 f298:=Tryz.func211.trans (congrArg some (by kernel_rfl))
 f299:=Tryz.func212.trans (congrArg some (by kernel_rfl))
 f300:=Tryz.func214.trans (congrArg some (by kernel_rfl))
 f301:=Tryz.func215.trans (congrArg some (by kernel_rfl))
 f328:=Tryz.func230.trans (congrArg some (by kernel_rfl))
 f329:=Tryz.func231.trans (congrArg some (by kernel_rfl))
 f330:=Tryz.func232.trans (congrArg some (by kernel_rfl))
 f331:=Tryz.func233.trans (congrArg some (by kernel_rfl))
 f332:=Tryz.func234.trans (congrArg some (by kernel_rfl))
 f343:=Tryz.func245.trans (congrArg some (by kernel_rfl))
 t0:=Tryz.underlying0
 a0:=Tryz.isAgg0
 z0:=Tryz.sizeOf0
 v0:=Tryz.zeroValue0
 t3:=Tryz.underlying3
 a3:=Tryz.isAgg3
 z3:=Tryz.sizeOf3
 v3:=Tryz.zeroValue3
 t4:=Tryz.underlying4
 a4:=Tryz.isAgg4
 z4:=Tryz.sizeOf4
 v4:=Tryz.zeroValue4
 t5:=Tryz.underlying5
 a5:=Tryz.isAgg5
 z5:=Tryz.sizeOf5
 v5:=Tryz.zeroValue5
 t9:=Tryz.underlying9
 a9:=Tryz.isAgg9
 z9:=Tryz.sizeOf9
 v9:=Tryz.zeroValue9
 t28:=Tryz.underlying51
 a28:=Tryz.isAgg51
 z28:=Tryz.sizeOf51
 v28:=Tryz.zeroValue51
 t46:=Tryz.underlying191
 a46:=Tryz.isAgg191
 z46:=Tryz.sizeOf191
 v46:=Tryz.zeroValue191
 t51:=Tryz.underlying237
 a51:=Tryz.isAgg237
 z51:=Tryz.sizeOf237
 v51:=Tryz.zeroValue237
 t53:=Tryz.underlying228
 a53:=Tryz.isAgg228
 z53:=Tryz.sizeOf228
 v53:=Tryz.zeroValue228
 t131:=Tryz.underlying118
 a131:=Tryz.isAgg118
 z131:=Tryz.sizeOf118
 v131:=Tryz.zeroValue118
 t182:=Tryz.underlying274
 a182:=Tryz.isAgg274
 z182:=Tryz.sizeOf274
 v182:=Tryz.zeroValue274
 t183:=Tryz.underlying275
 a183:=Tryz.isAgg275
 z183:=Tryz.sizeOf275
 v183:=Tryz.zeroValue275
 t218:=Tryz.underlying301
 a218:=Tryz.isAgg301
 z218:=Tryz.sizeOf301
 v218:=Tryz.zeroValue301
 t222:=Tryz.underlying305
 a222:=Tryz.isAgg305
 z222:=Tryz.sizeOf305
 v222:=Tryz.zeroValue305
 t228:=Tryz.underlying316
 a228:=Tryz.isAgg316
 z228:=Tryz.sizeOf316
 v228:=Tryz.zeroValue316
 t229:=Tryz.underlying93
 a229:=Tryz.isAgg93
 z229:=Tryz.sizeOf93
 v229:=Tryz.zeroValue93 }
open Go.Sort Go.RowKit in
theorem Tryz.slices_Sort_int (blk off cap:Nat) (zs:List Int) (w:World) (hH:Holds (Value.int .i64) w blk off zs.toArray) (hblk:blk<w.heap.size) (hsz:zs.length<4611686018427387904) :
  Calls Tryz.prog 136 #[.slice (some ⟨blk,off,none⟩) zs.length cap] w fun e w' =>
   e = .returned (.tuple #[])/\∃n os,w'=grow (putRow (Value.int .i64) (Sort.ahead w n) blk off (zs.mergeSort fun x y=>decide (x<=y)).toArray) os:=Any.slices_Sort_int Tryz.lays189 blk off cap zs w hH hblk hsz
open Go.RowKit Go.Sort in
theorem Tryz.slices_Sort_int_none (p:Option Addr) (cap:Nat) (w:World) :
  Calls Tryz.prog 136 #[.slice p 0 cap] w fun e w'=>e = .returned (.tuple #[])/\w'=w:=Any.slices_Sort_int_none Tryz.lays189 p cap w
end Go.Proofs
/- Which threads lie over which,in plain Lean. -/
namespace Go.Proofs.YtbjgpbojjhldaaaGreatDoor
set_option maxRecDepth 100000
def upTo (g:Gd) (x y a:Nat):List Nat :=
 if a<g.w then ((List.range (if a<x then g.h else if a=x then y else 0)).filter (fun y => !g.at a y)).map (fun y=>g.w+y)
 else (List.range (if a-g.w<y then x+1 else x)).filter (fun x=>g.at x (a-g.w))
theorem zqz (g:Gd) (a:Nat):upTo g 0 0 a=[]:=by
 unfold upTo
 split
 ·rw [if_neg (by omega)];split <;> rfl
 ·rw [if_neg (by omega)];rfl
theorem zrQ (g:Gd) (x a:Nat) (ha:a<g.w+g.h):upTo g x g.h a=upTo g (x+1) 0 a:=by
 unfold upTo
 split
 ·by_cases h:a<x
  ·rw [if_pos h,if_pos (by omega)]
  ·by_cases h2:a=x
   ·rw [if_neg h,if_pos h2,if_pos (by omega)]
   ·rw [if_neg h,if_neg h2,if_neg (by omega)]
    split <;> rfl
 ·rw [if_pos (by omega),if_neg (by omega)]
theorem zoO (g:Gd) (a:Nat):upTo g g.w 0 a=upOf g a:=by
 unfold upTo upOf
 by_cases h:a<g.w
 ·rw [if_pos h,if_pos h,if_pos h]
 ·rw [if_neg h,if_neg h,if_neg (by omega)]
theorem zg5 {g:Gd} {x y:Nat} (hx:x<g.w) (h:g.at x y=true) (a:Nat):upTo g x (y+1) a=if a=g.w+y then upTo g x y a++[x] else upTo g x y a:=by
 unfold upTo
 by_cases ha:a<g.w
 ·rw [if_pos ha,if_pos ha,if_neg (show ¬a=g.w+y by omega)]
  by_cases h1:a<x
  ·rw [if_pos h1,if_pos h1]
  ·by_cases h2:a=x
   ·subst h2
    rw [if_neg h1,if_pos rfl,if_neg h1,if_pos rfl,List.range_succ,List.filter_append]
    simp [h]
   ·rw [if_neg h1,if_neg h2,if_neg h1,if_neg h2]
 ·rw [if_neg ha,if_neg ha]
  by_cases h1:a=g.w+y
  ·subst h1
   rw [if_pos rfl,if_pos (by omega),if_neg (by omega),List.range_succ,List.filter_append,show g.w+y-g.w=y by omega]
   simp [h]
  ·rw [if_neg h1]
   by_cases h2:a-g.w<y
   ·rw [if_pos h2,if_pos (by omega)]
   ·rw [if_neg h2,if_neg (by omega)]
theorem zfX {g:Gd} {x y:Nat} (hx:x<g.w) (h:g.at x y=false) (a:Nat):upTo g x (y+1) a=if a=x then upTo g x y a++[g.w+y] else upTo g x y a:=by
 unfold upTo
 by_cases ha:a<g.w
 ·rw [if_pos ha,if_pos ha]
  by_cases h2:a=x
  ·subst h2
   rw [if_pos rfl,if_neg (by omega),if_pos rfl,if_neg (by omega),if_pos rfl,List.range_succ,List.filter_append,List.map_append]
   simp [h]
  ·simp only [if_neg h2]
 ·rw [if_neg ha,if_neg ha,if_neg (show ¬a=x by omega)]
  by_cases h2:a-g.w<y
  ·rw [if_pos h2,if_pos (by omega)]
  ·rw [if_neg h2]
   by_cases h3:a-g.w<y+1
   ·have h4:a-g.w=y:=by omega
    rw [if_pos h3,List.range_succ,List.filter_append,h4]
    simp [h]
   ·rw [if_neg h3]
theorem zsk {g:Gd} {x y a:Nat} (hx:x<=g.w) (hy:y<=g.h):∀b∈upTo g x y a,b<g.w+g.h:=by
 intro b hb
 unfold upTo at hb
 split at hb
 ·obtain ⟨c,hc,rfl⟩:=List.mem_map.1 hb
  have:=(List.mem_filter.1 hc).1
  have:=ZG.1 this
  split at this
  ·omega
  ·split at this
   ·omega
   ·omega
 ·have:=(List.mem_filter.1 hb).1
  have:=ZG.1 this
  split at this <;> omega
theorem zqy {g:Gd} {a:Nat}:∀b∈upOf g a,b<g.w+g.h:=by
 intro b hb
 rw [<-zoO g a] at hb
 exact zsk (Zb _) (ZK _) b hb
theorem zrP (g:Gd) (x y a:Nat):(upTo g x y a).length<=g.h+x+y+1:=by
 unfold upTo
 split
 ·rw [List.length_map]
  refine Zv (List.length_filter_le _ _) ?_
  rw [List.length_range]
  split
  ·omega
  ·split <;> omega
 ·refine Zv (List.length_filter_le _ _) ?_
  rw [List.length_range]
  split <;> omega
theorem znZ {g:Gd} (hg:okG g) (a:Nat):(upOf g a).length<=64:=by
 unfold upOf
 split
 ·rw [List.length_map]
  refine Zv (List.length_filter_le _ _) ?_
  rw [List.length_range]
  exact hg.2.2.2.1
 ·refine Zv (List.length_filter_le _ _) ?_
  rw [List.length_range]
  exact hg.2.1
end Go.Proofs.YtbjgpbojjhldaaaGreatDoor
/- How far threads are,in plain Lean. -/
namespace Go.Proofs.YtbjgpbojjhldaaaGreatDoor
set_option maxRecDepth 100000
structure BfI (n p:Nat) (far:List Int) (q:List Nat):Prop where
 len:far.length=n
 inQ:∀a∈q,a<n/\0<=far.getD a 0
 cnt:far.countP (fun x=>decide (0<=x))=p+q.length
 bd:∀x∈far,x<=p /\ -1<=x
theorem zfK {l:List Int} {b:Nat} {v:Int} (hb:b<l.length) (h:l.getD b 0<0) (hv:0<=v):(l.set b v).countP (fun x=>decide (0<=x))=l.countP (fun x=>decide (0<=x))+1:=by
 induction l generalizing b with
 | nil=>simp at hb
 | cons x l ih =>
  cases b with
  | zero =>
   have h:x<0:=h
   rw [List.set_cons_zero,List.countP_cons,List.countP_cons,if_pos (by simpa using hv),if_neg (by simp;omega)]
  | succ b =>
   rw [List.set_cons_succ,List.countP_cons,List.countP_cons,ih (by simpa using hb) (by simpa using h)]
   omega
theorem zei {l:List Int} {b a:Nat} {v:Int} (hb:b<l.length):(l.set b v).getD a 0=if a=b then v else l.getD a 0:=by
 rw [Zd,Zd,List.getElem?_set]
 by_cases h:b=a
 ·subst h
  rw [if_pos rfl,if_pos hb,if_pos rfl]
  rfl
 ·rw [if_neg h,if_neg (fun e=>h e.symm)]
theorem BfI.start {n k:Nat} (hk:k<n):BfI n 0 ((List.replicate n (-1)).set k 0) [k]:=by
 refine ⟨by simp,?_,?_,?_⟩
 ·intro a ha
  obtain rfl:a=k:=by simpa using ha
  refine ⟨hk,?_⟩
  rw [zei (by simpa using hk),if_pos rfl]
  exact Int.le_refl _
 ·rw [zfK (by simpa using hk) (by rw [Zd,List.getElem?_replicate,if_pos hk];decide) (Int.le_refl _),List.countP_replicate]
  rfl
 ·intro x hx
  rcases List.mem_or_eq_of_mem_set hx with h | h
  ·obtain ⟨-,rfl⟩:=List.mem_replicate.1 h
   decide
  ·subst h;decide
theorem BfI.lt {n p:Nat} {far:List Int} {q:List Nat} (h:BfI n p far q) (hq:0<q.length):p<n:=by
 have h1:=h.cnt
 have h2:far.countP (fun x=>decide (0<=x))<=far.length:=List.countP_le_length
 rw [h.len] at h2
 omega
theorem BfI.qlen {n p:Nat} {far:List Int} {q:List Nat} (h:BfI n p far q):q.length<=n:=by
 have h1:=h.cnt
 have h2:far.countP (fun x=>decide (0<=x))<=far.length:=List.countP_le_length
 rw [h.len] at h2
 omega
structure BfR (n p a:Nat) (d:Int) (far:List Int) (q:List Nat):Prop where
 st:BfI n (p+1) far q
 an:a<n
 at_:far.getD a 0=d
 dp:0<=d/\d<=p
theorem BfI.pop {n p a:Nat} {far:List Int} {q:List Nat} (h:BfI n p far (a::q)):BfR n p a (far.getD a 0) far q:=by
 have h0:=h.inQ a (by simp)
 have hm:far.getD a 0∈far:=by
  rw [Zd,Zf (by rw [h.len];exact h0.1)]
  exact List.getElem_mem _
 refine ⟨⟨h.len,fun b hb=>h.inQ b (by simp [hb]),?_,fun x hx=>?_⟩,h0.1,rfl,h0.2,(h.bd _ hm).1⟩
 ·rw [h.cnt,Zk];omega
 ·have:=h.bd x hx
  omega
theorem BfR.push {n p a b:Nat} {d:Int} {far:List Int} {q:List Nat} (h:BfR n p a d far q) (hb:b<n) (hf:far.getD b 0<0):BfR n p a d (far.set b (d+1)) (q++[b]):=by
 have aa:b<far.length:=by rw [h.st.len];exact hb
 have hne:a≠b:=by
  rintro rfl
  have:=h.at_
  have:=h.dp
  omega
 refine ⟨⟨by rw [List.length_set];exact h.st.len,fun c hc=>?_,?_,fun x hx=>?_⟩,h.an,?_,h.dp⟩
 ·rw [zei aa]
  rcases ZQ.1 hc with h1 | h1
  ·have:=h.st.inQ c h1
   refine ⟨this.1,?_⟩
   split
   ·have:=h.dp;omega
   ·exact this.2
  ·obtain rfl:c=b:=by simpa using h1
   refine ⟨hb,?_⟩
   rw [if_pos rfl]
   have:=h.dp
   omega
 ·rw [zfK aa hf (by have:=h.dp;omega),h.st.cnt,Zc]
  simp
  omega
 ·rcases List.mem_or_eq_of_mem_set hx with h1 | h1
  ·exact h.st.bd x h1
  ·subst h1
   have:=h.dp
   omega
 ·rw [zei aa,if_neg hne]
  exact h.at_
theorem zlV {next:Nat->List Nat} {f:Nat} {far:List Int}:bfsGo next f far []=far:=by
 cases f <;> rfl
theorem zhf {next:Nat->List Nat} {f a:Nat} {far:List Int} {q:List Nat}:bfsGo next (f+1) far (a::q)=bfsGo next f (bfsIn (far.getD a 0) (next a) far q).1 (bfsIn (far.getD a 0) (next a) far q).2:=rfl
theorem zlY {d:Int} {b:Nat} {l:List Nat} {far:List Int} {q:List Nat} (h:far.getD b 0<0):bfsIn d (b::l) far q=bfsIn d l (far.set b (d+1)) (q++[b]):=by
 rw [bfsIn,if_pos h]
theorem zlX {d:Int} {b:Nat} {l:List Nat} {far:List Int} {q:List Nat} (h:¬far.getD b 0<0):bfsIn d (b::l) far q=bfsIn d l far q:=by
 rw [bfsIn,if_neg h]
theorem zoY (next:Nat->List Nat):∀(f:Nat) (far:List Int) (q:List Nat),(bfsGo next f far q).length=far.length:=by
 have key:∀(d:Int) (l:List Nat) (far:List Int) (q:List Nat),(bfsIn d l far q).1.length=far.length:=by
  intro d l
  induction l with
  | nil=>intro far q;rfl
  | cons b l ih =>
   intro far q
   rw [bfsIn]
   split
   ·rw [ih,List.length_set]
   ·exact ih _ _
 intro f
 induction f with
 | zero=>intro far q;rfl
 | succ f ih =>
  intro far q
  cases q with
  | nil=>rfl
  | cons a q=>rw [zhf,ih,key]
theorem zjB (next:Nat->List Nat) (n k:Nat):(farV next n k).length=n:=by
 rw [farV,zoY,List.length_set,ZH]
def whP (l:List Int):List Nat:=(List.range l.length).filter (fun i=>decide (0<=l.getD i 0))
theorem znl (next:Nat->List Nat) (n k:Nat):reachV next n k=whP (farV next n k):=by
 rw [reachV,whP,zjB]
theorem zfv (next:Nat->List Nat) (n k:Nat):(reachV next n k).length<=n:=by
 rw [reachV]
 refine Zv (List.length_filter_le _ _) ?_
 rw [List.length_range]
 exact Zb _
theorem zlW (d:Int) (hd:0<=d):∀(l:List Nat) (far:List Int) (q:List Nat) (k:Nat),0<=far.getD k 0->0<=(bfsIn d l far q).1.getD k 0:=by
 intro l
 induction l with
 | nil=>intro far q k h;exact h
 | cons b l ih =>
  intro far q k h
  rw [bfsIn]
  split
  ·refine ih _ _ k ?_
   by_cases hb:b<far.length
   ·rw [zei hb]
    split
    ·omega
    ·exact h
   ·rw [List.set_eq_of_length_le (by omega)]
    exact h
  ·exact ih _ _ k h
theorem zqI {n p a:Nat} {d:Int}:∀(l:List Nat) {far:List Int} {q:List Nat},BfR n p a d far q->(∀b∈l,b<n)->BfR n p a d (bfsIn d l far q).1 (bfsIn d l far q).2:=by
 intro l
 induction l with
 | nil=>intro far q h _;exact h
 | cons b l ih =>
  intro far q h hb
  rw [bfsIn]
  split
  ·rename_i hf
   exact ih (h.push (hb b (by simp)) hf) (fun c hc=>hb c (by simp [hc]))
  ·exact ih h (fun c hc=>hb c (by simp [hc]))
theorem zlU {next:Nat->List Nat} {n k:Nat} (hn:∀a,a<n->∀b∈next a,b<n):∀(f p:Nat) {far:List Int} {q:List Nat},BfI n p far q->0<=far.getD k 0->0<=(bfsGo next f far q).getD k 0:=by
 intro f
 induction f with
 | zero=>intro p far q _ h;exact h
 | succ f ih =>
  intro p far q hI h
  cases q with
  | nil=>exact h
  | cons a q =>
   rw [zhf]
   have h1:=hI.pop
   exact ih (p+1) (zqI (next a) h1 (hn a h1.an)).st (zlW _ h1.dp.1 _ _ _ k h)
theorem zeh {next:Nat->List Nat} {n k:Nat} (hk:k<n) (hn:∀a,a<n->∀b∈next a,b<n):k∈reachV next n k:=by
 rw [reachV,List.mem_filter]
 refine ⟨ZG.2 hk,?_⟩
 have:=zlU (k:=k) hn n 0 (BfI.start hk) (by rw [zei (by simpa using hk),if_pos rfl];exact Int.le_refl _)
 simpa [farV] using this
theorem zgt {g:Gd}:∀a,a<g.w+g.h->∀b∈upOf g a,b<g.w+g.h:=fun _ _ b hb=>zqy b hb
def firstTo (g:Gd) (k:Nat):List Nat:=(List.range k).foldl (fun best a=>if best=[]∨lessS (reachV (upOf g) (g.w+g.h) a) best=true then reachV (upOf g) (g.w+g.h) a else best) []
theorem zfg (g:Gd):firstTo g (g.w+g.h)=firstV g:=rfl
theorem zcx (g:Gd) (k:Nat):firstTo g (k+1)=if firstTo g k=[]∨lessS (reachV (upOf g) (g.w+g.h) k) (firstTo g k)=true then reachV (upOf g) (g.w+g.h) k else firstTo g k:=by
 rw [firstTo,List.range_succ,List.foldl_append]
 rfl
theorem zhl {g:Gd} {k:Nat} (hk:k<g.w+g.h):firstTo g (k+1)≠[]:=by
 rw [zcx]
 split
 ·exact List.ne_nil_of_mem (zeh hk zgt)
 ·rename_i h
  exact fun e=>h (.inl e)
theorem zjG (g:Gd):∀k,(firstTo g k).length<=g.w+g.h:=by
 intro k
 induction k with
 | zero=>simp [firstTo]
 | succ k ih =>
  rw [zcx]
  split
  ·exact zfv _ _ _
  ·exact ih
end Go.Proofs.YtbjgpbojjhldaaaGreatDoor
