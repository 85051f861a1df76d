/- The reference's list out of its table. -/
import Derived.Test.YtkneghkbgingdaaGreatDoorT17
import Derived.Test.YtkneghkbgingdaaGreatDoorT36
set_option maxHeartbeats 16000000
namespace Go.Proofs.YtkneghkbgingdaaGreatDoor
set_option maxRecDepth 100000
open Go.RowKit Go.ChangeShapes Go.WideShapes Go.Joins
def MadeR (T:TypeId) (t:Tms) (w:World) (e:Ending) (w':World):Prop:=∃v,e = .returned v/\Ext w w'/\OwnT w' w.heap.size T v t.cnt t
theorem zc1 {P:Program} {ops:Array Oper} {E:Prop} {o:Oper} {a:Act} {K:Act->World->Prop} {Q:Exit->Act->World->Prop} {w w1 w2 wx:World} (T e:TypeId) (z:Value) (bytes:Nat) {s x:Operand} {v1 v2:Value} {t r:Tms}
  (hgd:o.guard=none) (ho:o.op = .call { callee := .builtin .append,args:=#[s,x],argTypes:=#[T,T] })
  (ht:P.underlying T=some (.slice e)) (hinfo:(P.info? e).map (fun i=>(i.zero,i.size,i.bytes))=some (some z,6,bytes)) (hzs:z.cells.size=6) (hby:bytes<=1000)
  (hs:a.eval s=v1) (hx:a.eval x=v2) (h1:OwnT w2 w1.heap.size e v1 t.cnt t) (h2:OwnT wx w2.heap.size e v2 r.cnt r) (b0:Ext w w1) (b1:Ext w1 w2) (b2:Ext w2 wx) (hk:t.cnt+r.cnt<=1000000)
  (h:∀v' w3,OwnT w3 w.heap.size e v' (t.cnt+r.cnt) (t.app r)->Hid (Ext w w3)->K (a.put o.dst v') w3) :
  if Region.wanted o (yielded ops a.tmps)=true then Oper.wp P o a wx K Q else E:=by
 have hw:Region.wanted o (yielded ops a.tmps)=true:=by simp [Region.wanted,hgd]
 rw [if_pos hw]
 obtain ⟨A,c,L,rfl,hL,hrc,hA⟩:=h2.lies
 have ab:∀b,w2.heap.size<=b->some b≠v1.ownBlock:=fun b hb e9=>by
  obtain ⟨_,L1,aa,_⟩:=h1
  have:=(zbk aa b e9.symm).2
  omega
 have ac:=Zl b0
 have hz1:=Zl b1
 exact zbJ (w:=w) T e z bytes ho ht hinfo hzs hby hs hx ((h1.ext b2).low ac) ((b0.trans b1).trans b2) rfl (hL.keep (Zg _) fun b _ hb=>⟨⟨by omega,ab b hb.1⟩,fun _=>rfl⟩) hA hk h
theorem zmg (n c c':Nat) (A A':Option Addr) (l:List St) (hn:n<=60) (hln:l.length=n) (hby:Bytes l):∀(M a m:Nat) (w:World),m<=M->1<=m->a+m<=n->Vec shSt w A n l->TbR w A' (n+1) l->∀(ai mi:Int),ai=(a:Int)->mi=(m:Int) ->
  Calls Tryz.prog 110 #[.slice A n c,.slice A' (n+1) c',.int .i64 ai,.int .i64 mi] w (MadeR 134 (mkT M (sub l a m)) w):=by
 intro M
 induction M with
 | zero=>intro a m w h0 h1;omega
 | succ M ih =>
  intro a m w hM h1 ham hv ht ai mi aG aL
  subst aG
  subst aL
  have IH:=Za ih
  have HV:=Za hv
  have HT:=Za ht
  have q0:(0:Int)<=(a:Int):=by omega
  have q2:(0:Int)<=(m:Int):=by omega
  have q3:(m:Int)<(n:Int)+1:=by omega
  have q4:((n+1:Nat):Int)=(n:Int)+1:=by omega
  have q5:(a:Int)<(n:Int):=by omega
  have m0:((m:Int)==0)=false:=by rw [Ze];omega
  have aM:=zbU (l:=l) (a:=a) (n:=m) (by omega) h1
  have ar:=zan (l:=l) (a:=a) (n:=m) (by omega)
  have al:=zgu aM
  rw [ar] at al
  obtain ⟨zt,ay,ax⟩:=zcC
  have aF:=Za ay
  have aE:=Za ax
  obtain ⟨b1,off1,b2,off2,n',c2,rfl,hb1,d0,hjn,hb2,d1,d2,d3⟩:=ht.at_ (r:=m) (i:=a) h1 (by omega) (by omega)
  have q6:(a:Int)<(n':Int):=by omega
  have aa:mkT (M+1) (sub l a m)=if 0<(ch (sub l a m)).part then (mkT M ((sub l a m).take (ch (sub l a m)).part)).app (mkT M ((sub l a m).drop (ch (sub l a m)).part)) else if 0<(ch (sub l a m)).period then .cons (((sub l a m).length / (ch (sub l a m)).period:Nat):Int) st0 (mkT M ((sub l a m).take (ch (sub l a m)).period)) .nil else .cons ((sub l a m).length:Int) ((sub l a m).getD 0 st0) .nil .nil:=rfl
  obtain ⟨pt,af⟩:∃x,(ch (sub l a m)).part=x:=⟨_,rfl⟩
  obtain ⟨pd,ae⟩:∃x,(ch (sub l a m)).period=x:=⟨_,rfl⟩
  obtain ⟨sz,au⟩:∃x,(ch (sub l a m)).size=x:=⟨_,rfl⟩
  rw [au] at d1
  rw [ae] at d2
  rw [af] at d3
  rw [af,ae,ar] at aa
  rw [af,ae] at al
  have hb:(pt<m/\pd<m)/\(0<pd->pt=0):=by
   rcases al with ⟨hx, -⟩ | ⟨h2,h3,h4, -⟩ | ⟨h2,h3,h4, -⟩
   ·rw [hx] at af ae
    simp only at af ae
    omega
   ·omega
   ·omega
  clear ih hv ht ay ax al af ae au
  by_cases hp1:0<pd
  ·rw [if_neg (by have:=hb.2 hp1;omega),if_pos hp1,zbi (by omega)] at aa
   have ag:=Za aa
   have t2:((0:Int)<(pd:Int)):=by omega
   have k1:=zbN M (sub l a pd) (zbU (l:=l) (by omega) (by omega)) (by rw [zan (by omega)];omega)
   rw [zan (by omega)] at k1
   have tz:¬pd=0:=by omega
   obtain ⟨q,hq⟩:∃q,m / pd=q:=⟨_,rfl⟩
   have td2:(m:Int) / (pd:Int)=(q:Int):=by rw [<-hq];rfl
   have td:(m:Int).tdiv (pd:Int)=(q:Int):=by rw [Int.tdiv_eq_ediv_of_nonneg (by omega)];exact td2
   have hqm:q<=m:=by rw [<-hq];exact Nat.div_le_self _ _
   have tw:=Zh (q:Int) (by omega)
   have aD:=Za hq
   clear hq aa
   go_enter Tryz.func110,Tryz.ntmps110
   go_wp2_with fail
   generalize hwb:World.alloc w _=wb
   have bz:wb.heap.size=w.heap.size+1:=by rw [<-hwb];simp
   have e1:wb.cell? ⟨w.heap.size,1,none⟩=some (.int .i64 (pd:Nat)):=by rw [<-hwb];simp [go_sem]
   have ad:=Za (show Ext w wb by rw [<-hwb];exact (Zf _).alloc _)
   have HV1:=Za (HV.out.ext ad.out)
   have ak:=Za (HT.out.ext ad.out)
   clear hwb d0 d1 d2 d3
   go_region_held3 (fun w'=>w'.cell? ⟨w.heap.size,1,none⟩=some (.int .i64 (pd:Nat))) (go_keep)
    (first
     | (go_at_call 110;((with_reducible refine (IH.out a pd _ (by omega) (by omega) (by omega) (HV1.out.ext (by repeat (first|exact zr _|assumption|refine za ?_ _|refine zd ?_|refine zn ?_ _|refine Zi ?_ (by assumption)))) (ak.out.ext (by repeat (first|exact zr _|assumption|refine za ?_ _|refine zd ?_|refine zn ?_ _|refine Zi ?_ (by assumption)))) _ _ rfl rfl).mono ?_);rintro e w2 ⟨v1,rfl,an,aj⟩;obtain ⟨A2,c3,rfl,ao⟩:=zaA aj (by omega);have am:Ext wb w2:=(by repeat (first|exact zr _|assumption|refine za ?_ _|refine zd ?_|refine zn ?_ _|refine Zi ?_ (by assumption)));have ac:=Za am;obtain ⟨aI,aJ,aK⟩:=am.facts;have HK2:=Za (show TvK w2 (fun b=>wb.heap.size<=b) A2 (mkT M (sub l a pd)).cnt (mkT M (sub l a pd)) from ao);clear an aj ao)))
   all_goals (go_wp2;go_ret;rw [ag.out,aD.out];exact ⟨_,rfl,Zp (Zi ad.out ac.out) _,zfF w2 w.heap.size 134 (q:Int) 0 false 0 0 (by have:=Zl ac.out;omega) (by omega) (HK2.out.mono fun b _ hb=>by omega)⟩)
  have t2:¬((0:Int)<(pd:Int)):=by omega
  by_cases hp0:0<pt
  ·rw [if_pos hp0,zbi (by omega),zdd (by omega)] at aa
   have aw:=zbU (l:=l) (a:=a) (n:=pt) (by omega) (by omega)
   have hx2:=zbU (l:=l) (a:=a+pt) (n:=m-pt) (by omega) (by omega)
   have k1:=zbN M (sub l a pt) aw (by rw [zan (by omega)];omega)
   have k2:=zbN M (sub l (a+pt) (m-pt)) hx2 (by rw [zan (by omega)];omega)
   rw [zan (by omega)] at k1 k2
   have ag:=Za aa
   have t1:((0:Int)<(pt:Int)):=by omega
   have i1:=Zh ((a:Int)+(pt:Int)) (by omega)
   have i2:=Zh ((m:Int)-(pt:Int)) (by omega)
   have E3:=Za (show (a:Int)+(pt:Int)=((a+pt:Nat):Int) by omega)
   have E4:=Za (show (m:Int)-(pt:Int)=((m-pt:Nat):Int) by omega)
   clear aa aw hx2
   go_enter Tryz.func110,Tryz.ntmps110
   go_wp2_with fail
   generalize hwb:World.alloc w _=wb
   have bz:wb.heap.size=w.heap.size+1:=by rw [<-hwb];simp
   have e1:wb.cell? ⟨w.heap.size,1,none⟩=some (.int .i64 (pd:Nat)):=by rw [<-hwb];simp [go_sem]
   have e2:wb.cell? ⟨w.heap.size,2,none⟩=some (.int .i64 (pt:Nat)):=by rw [<-hwb];simp [go_sem]
   have ad:=Za (show Ext w wb by rw [<-hwb];exact (Zf _).alloc _)
   have HV1:=Za (HV.out.ext ad.out)
   have ak:=Za (HT.out.ext ad.out)
   clear hwb d0 d1 d2 d3
   go_region_held3 (fun w'=>w'.cell? ⟨w.heap.size,2,none⟩=some (.int .i64 (pt:Nat))) (go_keep)
    (first
     | (go_at_call 110;(first
      | ((with_reducible refine (IH.out (a+pt) (m-pt) _ (by omega) (by omega) (by omega) (HV1.out.ext (ac.out.trans (by repeat (first|exact zr _|assumption|refine za ?_ _|refine zd ?_|refine zn ?_ _|refine Zi ?_ (by assumption))))) (ak.out.ext (ac.out.trans (by repeat (first|exact zr _|assumption|refine za ?_ _|refine zd ?_|refine zn ?_ _|refine Zi ?_ (by assumption))))) _ _ E3.out E4.out).mono ?_);rintro e w3 ⟨v2,rfl,aH,av⟩;have aq:Ext w2 w3:=(by repeat (first|exact zr _|assumption|refine za ?_ _|refine zd ?_|refine zn ?_ _|refine Zi ?_ (by assumption)));have az:=Za aq;have am:=ac.out.trans aq;obtain ⟨hf4,hf5,hf6⟩:=am.facts;have aC:=Za (show OwnT w3 w2.heap.size 134 v2 (mkT M (sub l (a+pt) (m-pt))).cnt (mkT M (sub l (a+pt) (m-pt))) from av);clear aH av)
      | (((with_reducible refine (IH.out a pt _ (by omega) (by omega) (by omega) (HV1.out.ext (by repeat (first|exact zr _|assumption|refine za ?_ _|refine zd ?_|refine zn ?_ _|refine Zi ?_ (by assumption)))) (ak.out.ext (by repeat (first|exact zr _|assumption|refine za ?_ _|refine zd ?_|refine zn ?_ _|refine Zi ?_ (by assumption)))) _ _ rfl rfl).mono ?_);rintro e w2 ⟨v1,rfl,an,aj⟩;have ap:Ext wb w2:=(by repeat (first|exact zr _|assumption|refine za ?_ _|refine zd ?_|refine zn ?_ _|refine Zi ?_ (by assumption)));have ac:=Za ap;obtain ⟨aI,aJ,aK⟩:=ap.facts;have aB:=Za (show OwnT w2 wb.heap.size 134 v1 (mkT M (sub l a pt)).cnt (mkT M (sub l a pt)) from aj);clear an aj))))
     | (refine zc1 (w:=wb) (w1:=wb) 91 134 zt 56 (by rfl) (by rfl) Tryz.underlying91 aF.out aE.out (by omega) (by rfl) (by rfl) aB.out aC.out (Zf _) ac.out az.out (by omega) ?_;intro v' w4 ah ab;obtain ⟨hf7,hf8,hf9⟩:=ab.out.facts))
   all_goals (go_wp2;go_ret;rw [ag.out];exact ⟨_,rfl,ad.out.trans ab.out,by rw [zbw];exact ah.low (by omega)⟩)
  have t1:¬((0:Int)<(pt:Int)):=by omega
  rw [if_neg hp0,if_neg hp1,zeU (by omega),Nat.add_zero] at aa
  have ag:=Za aa
  have aA:=Za (hby a (by omega))
  clear aa hby
  obtain ⟨b,off,rfl,hb,hc⟩:=Sts.all HV.out (by omega)
  obtain ⟨k1,k2,k3,k4⟩:=hc a (by omega)
  generalize hs:l.getD a st0=s at *
  obtain ⟨s1,s2,s3,s4⟩:=s
  simp only at k1 k2 k3 k4
  go_enter Tryz.func110,Tryz.ntmps110
  go_wp2_with fail
  go_ret
  rw [ag.out]
  refine ⟨_,rfl,Zp (Zp (Zf _) _) _,?_⟩
  have h9:=zfF (cap:=0) (w.alloc (.cells #[.int .i64 (sz:Nat),.int .i64 (pd:Nat),.int .i64 (pt:Nat)] 197)) w.heap.size 134 (m:Int) s1 s2 s3 s4 (by simp) aA.out (TvK.none_ _ _ none)
  rw [show (w.alloc (.cells #[.int .i64 (sz:Nat),.int .i64 (pd:Nat),.int .i64 (pt:Nat)] 197)).heap.size=w.heap.size+1 by simp] at h9
  exact h9
theorem zmh (c:Nat) (A A':Option Addr) (c':Nat) (w:World) (ht:TbR w A' (0+1) []) :
  Calls Tryz.prog 110 #[.slice A 0 c,.slice A' (0+1) c',.int .i64 0,.int .i64 0] w fun e w'=>e = .returned (.slice none 0 0)/\Ext w w':=by
 obtain ⟨b1,off1,b2,off2,n',c2,rfl,hb1,d0,hjn,hb2,d1,d2,d3⟩:=ht.get (r:=0) (i:=0) (x:=⟨0,0,0⟩) (by omega) rfl
 have q6:(0:Int)<(n':Int):=by omega
 rw [Nat.add_zero] at d0
 rw [Nat.zero_mul] at d1 d2 d3
 rw [Nat.add_zero] at d1 d2 d3
 clear ht
 go_enter Tryz.func110,Tryz.ntmps110
 go_wp2_with fail
 go_ret
 exact ⟨rfl,by repeat (first|exact zr _|assumption|refine za ?_ _|refine zd ?_|refine zn ?_ _|refine Zi ?_ (by assumption))⟩
end Go.Proofs.YtkneghkbgingdaaGreatDoor
/- The reference's Find;a list that is small is not great. -/
namespace Go.Proofs.YtkneghkbgingdaaGreatDoor
set_option maxRecDepth 100000
open Go.RowKit Go.ChangeShapes Go.WideShapes Go.Joins
theorem zkR (n c:Nat) (A:Option Addr) (l:List St) (w:World) (hl:Vec shSt w A n l) (hby:Bytes l) (hn:n<=maxLen) (hcap:n<=c) :
  Calls Tryz.prog 76 #[.slice A n c] w (FindR l w):=by
 have HX:=Za hl
 have aa:=hl.1
 unfold maxLen at hn
 by_cases hn60:60<n
 ·have q1:((60:Int)<(n:Int)):=by omega
  have HE:=Za (show findE l=4 by rw [findE,if_pos (by omega)])
  clear hl
  go_enter Tryz.func76,Tryz.ntmps76
  go_wp2_with fail
  go_ret2
  exact FindR.none_ HE.out (by decide) (by repeat (first|exact zr _|assumption|refine za ?_ _|refine zd ?_|refine zn ?_ _|refine Zi ?_ (by assumption)))
 have q1:¬((60:Int)<(n:Int)):=by omega
 clear hl
 go_enter Tryz.func76,Tryz.ntmps76
 go_wp2_with fail
 go_loopw [4] (fun i wr=>∃k:Nat,i = .int .i64 k/\k<=n/\Hid (∀j,j<k->okSt (l.getD j st0)=true)/\Hid (Ext w wr)) (fun i _=>n-(intOf i).toNat)
 case atStart=>exact ⟨0,rfl,by omega,Za (fun j hj=>absurd hj (by omega)),Za (by repeat (first|exact zr _|assumption|refine za ?_ _|refine zd ?_|refine zn ?_ _|refine Zi ?_ (by assumption)))⟩
 case round =>
  obtain ⟨k,rfl,hk,HA,HE⟩:=hrel
  have hx:=HE.out
  by_cases hlt:k<n
  ·obtain ⟨b,off,rfl,hb,hc⟩:=Sts.all (HX.out.ext hx) (by omega)
   obtain ⟨c1,c2,c3,c4⟩:=hc k hlt
   have q0:(0:Int)<=(k:Int):=by omega
   have q2:(k:Int)<(n:Int):=by omega
   have ad:=Za (show okSt (l.getD k st0)=false->findE l=8 from fun h=>by rw [findE,if_neg (by omega),if_neg (by rw [zc2 (n:=n) (k:=k) aa hlt h];simp)])
   have ac:=Za (show okSt (l.getD k st0)=true->∀j,j<k+1->okSt (l.getD j st0)=true from fun h j hj=>by
    by_cases e:j=k
    ·subst e;exact h
    ·exact HA.out j (by omega))
   clear hc
   generalize hs:l.getD k st0=s at *
   obtain ⟨s1,s2,s3,s4⟩:=s
   simp only at c1 c2 c3 c4
   clear hs
   cases hok:okSt ⟨s1,s2,s3,s4⟩
   case false =>
    have HQ:=Za (show okE ⟨s1,s2,s3,s4⟩=8 by rw [okE,hok];rfl)
    have HF:=Za (ad.out hok)
    clear ad ac hok
    go_wp2_with (first
     | (go_at_call 109;((with_reducible refine (za7 s1 s2 s3 s4 _).mono ?_);rintro e w2 ⟨rfl,hq⟩;rw [HQ.out])))
    go_ret2
    exact FindR.none_ HF.out (by decide) (by repeat (first|exact zr _|assumption|refine za ?_ _|refine zd ?_|refine zn ?_ _|refine Zi ?_ (by assumption)))
   case true =>
    have HQ:=Za (show okE ⟨s1,s2,s3,s4⟩=0 by rw [okE,hok];rfl)
    have ah:=Za (ac.out hok)
    clear ad ac hok
    go_wp2_with (first
     | (go_at_call 109;((with_reducible refine (za7 s1 s2 s3 s4 _).mono ?_);rintro e w2 ⟨rfl,hq⟩;rw [HQ.out])))
    go_roundw
    case rel=>exact ⟨k+1,by go_num,by omega,ah,Za (by repeat (first|exact zr _|assumption|refine za ?_ _|refine zd ?_|refine zn ?_ _|refine Zi ?_ (by assumption)))⟩
    case measure=>simp [intOf];omega
  ·obtain rfl:k=n:=by omega
   have HB:=Za (zem aa HA.out)
   have aj:=Za (show (0:Int)=((0:Nat):Int) from rfl)
   have hE:findE l=0:=by rw [findE,if_neg (by omega),if_pos HB.out]
   have HF:=Za hE
   clear hE
   by_cases hn0:k=0
   ·subst hn0
    have e1:l=[]:=ZT aa
    subst e1
    go_wp2_with (first
     | (go_at_call 111;((with_reducible refine (zga 0 c A [] _ (HX.out.ext (by repeat (first|exact zr _|assumption|refine za ?_ _|refine zd ?_|refine zn ?_ _|refine Zi ?_ (by assumption)))) (by omega) (by omega)).mono ?_);rintro e w2 ⟨A2,c2,rfl,hq2,ab⟩;have ae:=Za ab;clear ab))
     | (go_at_call 110;((with_reducible refine (zmh c A A2 c2 _ (ae.out.ext (by repeat (first|exact zr _|assumption|refine za ?_ _|refine zd ?_|refine zn ?_ _|refine Zi ?_ (by assumption))))).mono ?_);rintro e w3 ⟨rfl,ak⟩)))
    go_ret2
    exact ⟨none,0,rfl,by repeat (first|exact zr _|assumption|refine za ?_ _|refine zd ?_|refine zn ?_ _|refine Zi ?_ (by assumption)),TvK.none_ _ _ _⟩
   have hcnt:=zbN k l (by rintro rfl;simp at aa;omega) (by omega)
   go_wp2_with (first
    | (go_at_call 111;((with_reducible refine (zga k c A l _ (HX.out.ext (by repeat (first|exact zr _|assumption|refine za ?_ _|refine zd ?_|refine zn ?_ _|refine Zi ?_ (by assumption)))) (by omega) (by omega)).mono ?_);rintro e w2 ⟨A2,c2,rfl,hq2,ab⟩;have ae:=Za ab;clear ab))
    | (go_at_call 110;((with_reducible refine (zmg k c c2 A A2 l (by omega) aa hby k 0 k _ (Zg _) (by omega) (by omega) (HX.out.ext (by repeat (first|exact zr _|assumption|refine za ?_ _|refine zd ?_|refine zn ?_ _|refine Zi ?_ (by assumption)))) (ae.out.ext (by repeat (first|exact zr _|assumption|refine za ?_ _|refine zd ?_|refine zn ?_ _|refine Zi ?_ (by assumption)))) (0:Int) (k:Int) aj.out rfl).mono ?_);rw [show sub l 0 k=l by rw [<-aa];exact zli l];rintro e w3 ⟨v1,rfl,ak,ag⟩;obtain ⟨A3,c3,rfl,af⟩:=zaA ag (by omega);have ai:=Za af;clear ag af)))
   go_ret2
   have hL:findL l=mkT k l:=by rw [findL,if_pos HF.out,findT,if_neg (by rintro rfl;simp at aa;omega),aa]
   have hws:=Zl hx
   have hws2:=Zl hq2
   exact ⟨A3,c3,by rw [HF.out,hL];rfl,by repeat (first|exact zr _|assumption|refine za ?_ _|refine zd ?_|refine zn ?_ _|refine Zi ?_ (by assumption)),by rw [hL];exact ai.out.mono fun b _ hb=>by omega⟩
end Go.Proofs.YtkneghkbgingdaaGreatDoor
/- The terms of a row: the reference's Terms. -/
namespace Go.Proofs.YtkneghkbgingdaaGreatDoor
set_option maxRecDepth 100000
open Go.RowKit Go.ChangeShapes Go.WideShapes Go.Joins
attribute [local go_sem] zaq
theorem zi7 (n c:Nat) (A:Option Addr) (l:List St) (w:World) (hl:Vec shSt w A n l) (hby:Bytes l) (hn:n<=200) (hnc:n<=c) (ha:allB l=true) :
  Calls Tryz.prog 44 #[.slice A n c] w (TermsR l w):=by
 have HX:=Za hl
 have ak:=hl.1
 have am:=Za hby
 by_cases hn60:n<=60
 ·have q1:(n:Int)<=60:=by omega
  have HF:=Za (znh ak ha hn60)
  have HM:=Za (show n<=maxLen by unfold maxLen;omega)
  clear hl hby ha
  go_enter Tryz.func44,Tryz.ntmps44
  go_wp2_with (first
   | (go_at_call 76;((with_reducible refine (zkR n c A l _ (HX.out.ext (by repeat (first|exact zr _|assumption|refine za ?_ _|refine zd ?_|refine zn ?_ _|refine Zi ?_ (by assumption)))) am.out HM.out hnc).mono ?_);rintro e w2 ⟨A2,c2,rfl,au,ax⟩;have ag:=Za au;have ai:=Za ax;clear au ax)))
  go_ret
  exact TermsR.of HF.out ai.out ag.out
 ·have q1:¬((n:Int)<=60):=by omega
  have HF:=Za (show runsT l=termsT l by rw [termsT,if_neg (by omega)])
  obtain ⟨zt,az,ay⟩:=zcC
  have ar:=Za az
  have aq:=Za ay
  clear az ay
  clear hl hby ha
  go_enter Tryz.func44,Tryz.ntmps44
  go_wp2_with fail
  go_loopw [5,6] (fun u i wr=>∃(V:Value) (k q:Nat) (t:Tms),V=u/\i = .int .i64 k/\k<=n/\q<=200/\Hid (runsT (l.take k)=t)/\Hid (OwnT wr w.heap.size 134 V q t/\Ext w wr)) (fun _ i _=>n-(intOf i).toNat)
  case atStart=>exact ⟨_,0,0,.nil,rfl,rfl,Zy _,Zy _,Za rfl,Za ⟨OwnT.nil _ _ _,Zf _⟩⟩
  case round =>
   obtain ⟨V,k,q,t,rfl,rfl,hk,hq,HT,HH⟩:=hrel
   have q0:(0:Int)<=(k:Int):=by omega
   by_cases hlt:k<n
   ·have q2:(k:Int)<(n:Int):=by omega
    have ac:=HH.out.2
    obtain ⟨b,off,rfl,hb,hc⟩:=Sts.all (HX.out.ext ac) (by omega)
    obtain ⟨h1,h2,h3,h4⟩:=hc k hlt
    have ad:=am.out k (by omega)
    have hq2:q<=k:=by rw [<-HH.out.1.1,<-HT.out];exact ZD zmR (by rw [Zx];omega)
    by_cases hs:0<k/\l.getD k st0=l.getD (k-1) st0
    ·obtain ⟨av,aj⟩:=hs
     obtain ⟨t0,N,hN1,hN2,e1,e2⟩:=zk6 av (by omega) aj
     obtain rfl:t=t0.app (.cons N (l.getD (k-1) st0) .nil .nil):=HT.out.symm.trans e1
     obtain ⟨g,cap,rfl,hg1,hg2,aA,hg4,hg5,aB,aC⟩:=OwnT.bump HH.out.1 ac ((N:Int)+1)
     have q3:(0:Int)<(k:Int):=by omega
     have q4:(1:Int)<=(k:Int):=by omega
     have q5:(0:Int)<=(k:Int)-1:=by omega
     have q6:(k:Int)-1<(n:Int):=by omega
     have q7:(1:Int)<=(q:Int):=by omega
     have q8:(q:Int)-1<(q:Int):=by omega
     have i1:=Zh ((k:Int)-1) (by omega)
     have i3:=Zh ((N:Int)+1) (by omega)
     have i4:=Zh ((q:Int)-1) (by omega)
     have i5:=Zh ((k:Int)+1) (by omega)
     obtain ⟨h5,h6,h7,h8⟩:=hc (k-1) (by omega)
     have e5:((k:Int)-1).toNat=k-1:=by omega
     have e6:((q:Int)-1).toNat=q-1:=by omega
     have HK2:=Za (fun (w':World) (h:Ext wr w')=>OwnT.bump2 (HH.out.1.ext h) (ac.trans h) ((N:Int)+1))
     have ae:=Za e2
     rw [aj] at h1 h2 h3 h4
     clear aB aC e1 e2 hc aA aj ac HT HH
     generalize l.getD (k-1) st0=x at *
     obtain ⟨x1,x2,x3,x4⟩:=x
     simp only at h1 h2 h3 h4 h5 h6 h7 h8
     go_wp2_with fail
     go_quiet (fail)
     go_wp2_with fail
     go_roundw
     case rel=>exact ⟨_,k+1,q,_,rfl,by go_num,by omega,by omega,ae,Za (HK2.out _ (by repeat (first|exact zr _|assumption|refine za ?_ _|refine zd ?_|refine zn ?_ _|refine Zi ?_ (by assumption))))⟩
     case measure=>simp [intOf] <;> omega
    ·have al:k=0∨l.getD k st0≠l.getD (k-1) st0:=by
      by_cases h0:k=0
      ·exact .inl h0
      ·exact .inr fun h=>hs ⟨by omega,h⟩
     have ae:=Za ((zje (by omega) al).trans (by rw [HT.out]))
     have HBL:=Za (show ∀b,wr.heap.size<=b->w.heap.size<=b/\some b≠V.ownBlock from fun b hb=>by
      obtain ⟨_,L,hL,_⟩:=HH.out.1
      exact ⟨ZD (Zl ac) hb,fun e=>by have:=(zbk hL b e.symm).2;omega⟩)
     have an:=Za (fun (w':World) (h:Ext wr w')=>(HH.out.1).ext h)
     have ap:=Za ac
     have i5:=Zh ((k:Int)+1) (by omega)
     have ao:=Za (show q+1<=1000000 by omega)
     have af:k=0∨(0<k/\¬l.getD k st0=l.getD (k-1) st0):=al.imp_right fun h=>⟨by
      by_cases h0:k=0
      ·subst h0;exact absurd rfl h
      ·omega,h⟩
     clear hs al ac
     rcases af with rfl | ⟨av,af⟩
     ·have q3:¬((0:Int)<((0:Nat):Int)):=by omega
      generalize l.getD 0 st0=x at *
      obtain ⟨x1,x2,x3,x4⟩:=x
      simp only [Nat.zero_mul,Nat.add_zero] at h1 h2 h3 h4 ad
      have ah:=Za ad
      clear hc ad
      go_wp2_with fail
      go_quiet (fail)
      go_wp2_with (first
       | (at_builtin;(refine zaH (w:=w) 91 134 zt 56 wr.heap.size 1 ⟨x1,x2,x3,x4⟩ (t:=t) (g := .nil) (A:=none) (n:=0) (cap:=0) (by rfl) (by rfl) Tryz.underlying91 ar.out aq.out (by omega) (by rfl) (by rfl) (an.out _ (by repeat (first|exact zr _|assumption|refine za ?_ _|refine zd ?_|refine zn ?_ _|refine Zi ?_ (by assumption)))) (ap.out.trans (by repeat (first|exact zr _|assumption|refine za ?_ _|refine zd ?_|refine zn ?_ _|refine Zi ?_ (by assumption)))) ah.out (TvK.none_ _ _ _) (zei _ _ _ _ _ _ _ _) ao.out ?_;intro A4 c4 w4 ab aa)))
      exact ⟨⟨_,0+1,q+1,_,rfl,by go_num,by omega,by omega,ae,Za ⟨ab,aa.out⟩⟩,by simp [intOf];omega⟩
     ·have q3:(0:Int)<(k:Int):=by omega
      have q4:(1:Int)<=(k:Int):=by omega
      have q5:(0:Int)<=(k:Int)-1:=by omega
      have q6:(k:Int)-1<(n:Int):=by omega
      have i1:=Zh ((k:Int)-1) (by omega)
      have e5:((k:Int)-1).toNat=k-1:=by omega
      obtain ⟨h5,h6,h7,h8⟩:=hc (k-1) (by omega)
      generalize l.getD k st0=x at *
      generalize l.getD (k-1) st0=y at *
      obtain ⟨x1,x2,x3,x4⟩:=x
      obtain ⟨y1,y2,y3,y4⟩:=y
      simp only at h1 h2 h3 h4 h5 h6 h7 h8 ad
      have ah:=Za ad
      have hne:=zbS af
      clear af hc ad
      go_wp2_with fail
      go_quiet (fail)
      go_wp2_with (first
       | (at_builtin;(refine zaH (w:=w) 91 134 zt 56 wr.heap.size 1 ⟨x1,x2,x3,x4⟩ (t:=t) (g := .nil) (A:=none) (n:=0) (cap:=0) (by rfl) (by rfl) Tryz.underlying91 ar.out aq.out (by omega) (by rfl) (by rfl) (an.out _ (by repeat (first|exact zr _|assumption|refine za ?_ _|refine zd ?_|refine zn ?_ _|refine Zi ?_ (by assumption)))) (ap.out.trans (by repeat (first|exact zr _|assumption|refine za ?_ _|refine zd ?_|refine zn ?_ _|refine Zi ?_ (by assumption)))) ah.out (TvK.none_ _ _ _) (zei _ _ _ _ _ _ _ _) ao.out ?_;intro A4 c4 w4 ab aa)))
      exact ⟨⟨_,k+1,q+1,_,rfl,by go_num,by omega,by omega,ae,Za ⟨ab,aa.out⟩⟩,by simp [intOf];omega⟩
   ·obtain rfl:k=n:=by omega
    rw [ZE (by omega)] at HT
    obtain ⟨A2,c2,rfl,aw⟩:=zaA HH.out.1 (by omega)
    have HK2:=Za aw
    have ag:=Za HH.out.2
    have ai:=Za (HT.out.symm.trans HF.out)
    clear aw HT HH
    go_wp2_with fail
    go_ret
    exact TermsR.of ai.out HK2.out (ag.out.trans (by repeat (first|exact zr _|assumption|refine za ?_ _|refine zd ?_|refine zn ?_ _|refine Zi ?_ (by assumption))))
end Go.Proofs.YtkneghkbgingdaaGreatDoor
