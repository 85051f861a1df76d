/- The reference's list out of its table. -/
import Derived.Test.YtkneghkbgingdaaGreatDoorP41
import Derived.Test.YtkneghkbgingdaaGreatDoorP43
import Derived.Test.YtkneghkbgingdaaGreatDoorP15
import Derived.Test.YtkneghkbgingdaaGreatDoorP17
import Derived.Test.YtkneghkbgingdaaGreatDoorP02
namespace Go.Proofs.YtkneghkbgingdaaGreatDoor
set_option maxRecDepth 100000
set_option maxRecDepth 100000
open Go.RowKit Go.ChangeShapes Go.WideShapes Go.Joins
def MadeR (T:TypeId) (t:Tms) (w:World) (e:Ending) (w':World):Prop:=∃v,e = .returned v∧Ext w w'∧OwnT w' w.heap.size T v t.cnt t
theorem zcw {P:Program} {ops:Array Oper} {E:Prop} {o:Oper} {a:Act} {K:Act→World→Prop} {Q:Exit→Act→World→Prop} {w w1 w2 wx:World} (T e:TypeId) (z:Value) (bytes:Nat) {s x:Operand} {v1 v2:Value} {t r:Tms}
  (hgd:o.guard=none) (ho:o.op = .call { callee := .builtin .append,args:=#[s,x],argTypes:=#[T,T] })
  (ht:P.underlying T=some (.slice e)) (hinfo:(P.info? e).map (fun i=>(i.zero,i.size,i.bytes))=some (some z,6,bytes)) (hzs:z.cells.size=6) (hby:bytes≤1000)
  (hs:a.eval s=v1) (hx:a.eval x=v2) (h1:OwnT w2 w1.heap.size e v1 t.cnt t) (h2:OwnT wx w2.heap.size e v2 r.cnt r) (b0:Ext w w1) (b1:Ext w1 w2) (b2:Ext w2 wx) (hk:t.cnt+r.cnt≤1000000)
  (h:∀v' w3,OwnT w3 w.heap.size e v' (t.cnt+r.cnt) (t.app r)→Hid (Ext w w3)→K (a.put o.dst v') w3) :
  if Region.wanted o (yielded ops a.tmps)=true then Oper.wp P o a wx K Q else E:=by
 have hw:Region.wanted o (yielded ops a.tmps)=true:=by simp [Region.wanted,hgd]
 rw [if_pos hw]
 obtain ⟨A,c,L,rfl,hL,hrc,hA⟩:=h2.lies
 have hob:∀b,w2.heap.size≤b→some b≠v1.ownBlock:=fun b hb e9=>by
  obtain ⟨_,L1,hL1,_⟩:=h1
  have:=(zbd hL1 b e9.symm).2
  omega
 have hz0:=Below.size b0
 have hz1:=Below.size b1
 exact zbo (w:=w) T e z bytes ho ht hinfo hzs hby hs hx ((h1.ext b2).low hz0) ((b0.trans b1).trans b2) rfl (hL.keep (Nat.le_refl _) fun b _ hb=>⟨⟨by omega,hob b hb.1⟩,fun _=>rfl⟩) hA hk h
set_option maxHeartbeats 8000000 in
theorem zj5 (n c c':Nat) (A A':Option Addr) (l:List St) (hn:n≤60) (hln:l.length=n) (hby:Bytes l):∀(M a m:Nat) (w:World),m≤M→1≤m→a+m≤n→Vec shSt w A n l→TbR w A' (n+1) l→∀(ai mi:Int),ai=(a:Int)→mi=(m:Int) →
  Calls Tryz.prog 110 #[.slice A n c,.slice A' (n+1) c',.int .i64 ai,.int .i64 mi] w (MadeR 134 (mkT M (sub l a m)) w):=by
 intro M
 induction M with
 | zero=>intro a m w h0 h1;omega
 | succ M ih =>
  intro a m w hM h1 ham hv ht ai mi hai hmi
  subst hai
  subst hmi
  have IH:=Lib.hid ih
  have HV:=Lib.hid hv
  have HT:=Lib.hid ht
  have q0:(0:Int)≤(a:Int):=by omega
  have q2:(0:Int)≤(m:Int):=by omega
  have q3:(m:Int)<(n:Int)+1:=by omega
  have q4:((n+1:Nat):Int)=(n:Int)+1:=by omega
  have q5:(a:Int)<(n:Int):=by omega
  have m0:((m:Int)==0)=false:=by rw [beq_eq_false_iff_ne];omega
  have hsn:=zbD (l:=l) (a:=a) (n:=m) (by omega) h1
  have hsl:=zau (l:=l) (a:=a) (n:=m) (by omega)
  have hmd:=zfL hsn
  rw [hsl] at hmd
  obtain ⟨zt,hzt,hzs⟩:=zcg
  have HZT:=Lib.hid hzt
  have HZS:=Lib.hid hzs
  obtain ⟨b1,off1,b2,off2,n',c2,rfl,hb1,d0,hjn,hb2,d1,d2,d3⟩:=ht.at_ (r:=m) (i:=a) h1 (by omega) (by omega)
  have q6:(a:Int)<(n':Int):=by omega
  have hmk:mkT (M+1) (sub l a m)=if 0<(ch (sub l a m)).part then (mkT M ((sub l a m).take (ch (sub l a m)).part)).app (mkT M ((sub l a m).drop (ch (sub l a m)).part)) else if 0<(ch (sub l a m)).period then .cons (((sub l a m).length / (ch (sub l a m)).period:Nat):Int) st0 (mkT M ((sub l a m).take (ch (sub l a m)).period)) .nil else .cons ((sub l a m).length:Int) ((sub l a m).getD 0 st0) .nil .nil:=rfl
  obtain ⟨pt,hpt⟩:∃x,(ch (sub l a m)).part=x:=⟨_,rfl⟩
  obtain ⟨pd,hpd⟩:∃x,(ch (sub l a m)).period=x:=⟨_,rfl⟩
  obtain ⟨sz,hsz⟩:∃x,(ch (sub l a m)).size=x:=⟨_,rfl⟩
  rw [hsz] at d1
  rw [hpd] at d2
  rw [hpt] at d3
  rw [hpt,hpd,hsl] at hmk
  rw [hpt,hpd] at hmd
  have hb:(pt<m∧pd<m)∧(0<pd→pt=0):=by
   rcases hmd with ⟨hx, -⟩ | ⟨h2,h3,h4, -⟩ | ⟨h2,h3,h4, -⟩
   ·rw [hx] at hpt hpd
    simp only at hpt hpd
    omega
   ·omega
   ·omega
  clear ih hv ht hzt hzs hmd hpt hpd hsz
  by_cases hp1:0<pd
  ·rw [if_neg (by have:=hb.2 hp1;omega),if_pos hp1,za9 (by omega)] at hmk
   have HMK:=Lib.hid hmk
   have t2:((0:Int)<(pd:Int)):=by omega
   have k1:=zby M (sub l a pd) (zbD (l:=l) (by omega) (by omega)) (by rw [zau (by omega)];omega)
   rw [zau (by omega)] at k1
   have tz:¬pd=0:=by omega
   obtain ⟨q,hq⟩:∃q,m / pd=q:=⟨_,rfl⟩
   have td2:(m:Int) / (pd:Int)=(q:Int):=by rw [←hq];rfl
   have td:(m:Int).tdiv (pd:Int)=(q:Int):=by rw [Int.tdiv_eq_ediv_of_nonneg (by omega)];exact td2
   have hqm:q≤m:=by rw [←hq];exact Nat.div_le_self _ _
   have tw:=IntWalk.i64_in (q:Int) (by omega)
   have HQ9:=Lib.hid hq
   clear hq hmk
   go_enter Tryz.func110,Tryz.ntmps110
   go_wp2_with fail
   generalize hwb:World.alloc w _=wb
   have bz:wb.heap.size=w.heap.size+1:=by rw [←hwb];simp
   have e1:wb.cell? ⟨w.heap.size,1,none⟩=some (.int .i64 (pd:Nat)):=by rw [←hwb];simp [go_sem]
   have HEB:=Lib.hid (show Ext w wb by rw [←hwb];exact (Ext.refl _).alloc _)
   have HV1:=Lib.hid (HV.out.ext HEB.out)
   have HT1:=Lib.hid (HT.out.ext HEB.out)
   clear hwb d0 d1 d2 d3
   go_region_held3 (fun w'=>w'.cell? ⟨w.heap.size,1,none⟩=some (.int .i64 (pd:Nat))) (go_keep)
    (first
     | (go_at_call 110;((with_reducible refine (IH.out a pd _ (by omega) (by omega) (by omega) (HV1.out.ext (by repeat (first|exact zr _|assumption|refine za ?_ _|refine zd ?_|refine zn ?_ _|refine Ext.trans ?_ (by assumption)))) (HT1.out.ext (by repeat (first|exact zr _|assumption|refine za ?_ _|refine zd ?_|refine zn ?_ _|refine Ext.trans ?_ (by assumption)))) _ _ rfl rfl).mono ?_);rintro e w2 ⟨v1,rfl,he2,hw2⟩;obtain ⟨A2,c3,rfl,hk2⟩:=zaD hw2 (by omega);have hq9:Ext wb w2:=(by repeat (first|exact zr _|assumption|refine za ?_ _|refine zd ?_|refine zn ?_ _|refine Ext.trans ?_ (by assumption)));have HB2:=Lib.hid hq9;obtain ⟨hf1,hf2,hf3⟩:=hq9.facts;have HK2:=Lib.hid (show TvK w2 (fun b=>wb.heap.size≤b) A2 (mkT M (sub l a pd)).cnt (mkT M (sub l a pd)) from hk2);clear he2 hw2 hk2)))
   all_goals (go_wp2;go_ret;rw [HMK.out,HQ9.out];exact ⟨_,rfl,Ext.alloc (Ext.trans HEB.out HB2.out) _,ze8 w2 w.heap.size 134 (q:Int) 0 false 0 0 (by have:=Below.size HB2.out;omega) (by omega) (HK2.out.mono fun b _ hb=>by omega)⟩)
  have t2:¬((0:Int)<(pd:Int)):=by omega
  by_cases hp0:0<pt
  ·rw [if_pos hp0,za9 (by omega),zcF (by omega)] at hmk
   have hx1:=zbD (l:=l) (a:=a) (n:=pt) (by omega) (by omega)
   have hx2:=zbD (l:=l) (a:=a+pt) (n:=m-pt) (by omega) (by omega)
   have k1:=zby M (sub l a pt) hx1 (by rw [zau (by omega)];omega)
   have k2:=zby M (sub l (a+pt) (m-pt)) hx2 (by rw [zau (by omega)];omega)
   rw [zau (by omega)] at k1 k2
   have HMK:=Lib.hid hmk
   have t1:((0:Int)<(pt:Int)):=by omega
   have i1:=IntWalk.i64_in ((a:Int)+(pt:Int)) (by omega)
   have i2:=IntWalk.i64_in ((m:Int)-(pt:Int)) (by omega)
   have E3:=Lib.hid (show (a:Int)+(pt:Int)=((a+pt:Nat):Int) by omega)
   have E4:=Lib.hid (show (m:Int)-(pt:Int)=((m-pt:Nat):Int) by omega)
   clear hmk hx1 hx2
   go_enter Tryz.func110,Tryz.ntmps110
   go_wp2_with fail
   generalize hwb:World.alloc w _=wb
   have bz:wb.heap.size=w.heap.size+1:=by rw [←hwb];simp
   have e1:wb.cell? ⟨w.heap.size,1,none⟩=some (.int .i64 (pd:Nat)):=by rw [←hwb];simp [go_sem]
   have e2:wb.cell? ⟨w.heap.size,2,none⟩=some (.int .i64 (pt:Nat)):=by rw [←hwb];simp [go_sem]
   have HEB:=Lib.hid (show Ext w wb by rw [←hwb];exact (Ext.refl _).alloc _)
   have HV1:=Lib.hid (HV.out.ext HEB.out)
   have HT1:=Lib.hid (HT.out.ext HEB.out)
   clear hwb d0 d1 d2 d3
   go_region_held3 (fun w'=>w'.cell? ⟨w.heap.size,2,none⟩=some (.int .i64 (pt:Nat))) (go_keep)
    (first
     | (go_at_call 110;(first
      | ((with_reducible refine (IH.out (a+pt) (m-pt) _ (by omega) (by omega) (by omega) (HV1.out.ext (HB2.out.trans (by repeat (first|exact zr _|assumption|refine za ?_ _|refine zd ?_|refine zn ?_ _|refine Ext.trans ?_ (by assumption))))) (HT1.out.ext (HB2.out.trans (by repeat (first|exact zr _|assumption|refine za ?_ _|refine zd ?_|refine zn ?_ _|refine Ext.trans ?_ (by assumption))))) _ _ E3.out E4.out).mono ?_);rintro e w3 ⟨v2,rfl,he3,hw3⟩;have hq8:Ext w2 w3:=(by repeat (first|exact zr _|assumption|refine za ?_ _|refine zd ?_|refine zn ?_ _|refine Ext.trans ?_ (by assumption)));have HB3:=Lib.hid hq8;have hq9:=HB2.out.trans hq8;obtain ⟨hf4,hf5,hf6⟩:=hq9.facts;have HN3:=Lib.hid (show OwnT w3 w2.heap.size 134 v2 (mkT M (sub l (a+pt) (m-pt))).cnt (mkT M (sub l (a+pt) (m-pt))) from hw3);clear he3 hw3)
      | (((with_reducible refine (IH.out a pt _ (by omega) (by omega) (by omega) (HV1.out.ext (by repeat (first|exact zr _|assumption|refine za ?_ _|refine zd ?_|refine zn ?_ _|refine Ext.trans ?_ (by assumption)))) (HT1.out.ext (by repeat (first|exact zr _|assumption|refine za ?_ _|refine zd ?_|refine zn ?_ _|refine Ext.trans ?_ (by assumption)))) _ _ rfl rfl).mono ?_);rintro e w2 ⟨v1,rfl,he2,hw2⟩;have hq7:Ext wb w2:=(by repeat (first|exact zr _|assumption|refine za ?_ _|refine zd ?_|refine zn ?_ _|refine Ext.trans ?_ (by assumption)));have HB2:=Lib.hid hq7;obtain ⟨hf1,hf2,hf3⟩:=hq7.facts;have HN2:=Lib.hid (show OwnT w2 wb.heap.size 134 v1 (mkT M (sub l a pt)).cnt (mkT M (sub l a pt)) from hw2);clear he2 hw2))))
     | (refine zcw (w:=wb) (w1:=wb) 91 134 zt 56 (by rfl) (by rfl) Tryz.underlying91 HZT.out HZS.out (by omega) (by rfl) (by rfl) HN2.out HN3.out (Ext.refl _) HB2.out HB3.out (by omega) ?_;intro v' w4 hown4 hext4;obtain ⟨hf7,hf8,hf9⟩:=hext4.out.facts))
   all_goals (go_wp2;go_ret;rw [HMK.out];exact ⟨_,rfl,HEB.out.trans hext4.out,by rw [zbn];exact hown4.low (by omega)⟩)
  have t1:¬((0:Int)<(pt:Int)):=by omega
  rw [if_neg hp0,if_neg hp1,zer (by omega),Nat.add_zero] at hmk
  have HMK:=Lib.hid hmk
  have HBY:=Lib.hid (hby a (by omega))
  clear hmk hby
  obtain ⟨b,off,rfl,hb,hc⟩:=Sts.all HV.out (by omega)
  obtain ⟨k1,k2,k3,k4⟩:=hc a (by omega)
  generalize hs:l.getD a st0=s at *
  obtain ⟨s1,s2,s3,s4⟩:=s
  simp only at k1 k2 k3 k4
  go_enter Tryz.func110,Tryz.ntmps110
  go_wp2_with fail
  go_ret
  rw [HMK.out]
  refine ⟨_,rfl,Ext.alloc (Ext.alloc (Ext.refl _) _) _,?_⟩
  have h9:=ze8 (cap:=0) (w.alloc (.cells #[.int .i64 (sz:Nat),.int .i64 (pd:Nat),.int .i64 (pt:Nat)] 197)) w.heap.size 134 (m:Int) s1 s2 s3 s4 (by simp) HBY.out (TvK.none_ _ _ none)
  rw [show (w.alloc (.cells #[.int .i64 (sz:Nat),.int .i64 (pd:Nat),.int .i64 (pt:Nat)] 197)).heap.size=w.heap.size+1 by simp] at h9
  exact h9
theorem zke (c:Nat) (A A':Option Addr) (c':Nat) (w:World) (ht:TbR w A' (0+1) []) :
  Calls Tryz.prog 110 #[.slice A 0 c,.slice A' (0+1) c',.int .i64 0,.int .i64 0] w fun e w'=>e = .returned (.slice none 0 0)∧Ext w w':=by
 obtain ⟨b1,off1,b2,off2,n',c2,rfl,hb1,d0,hjn,hb2,d1,d2,d3⟩:=ht.get (r:=0) (i:=0) (x:=⟨0,0,0⟩) (by omega) rfl
 have q6:(0:Int)<(n':Int):=by omega
 rw [Nat.add_zero] at d0
 rw [Nat.zero_mul] at d1 d2 d3
 rw [Nat.add_zero] at d1 d2 d3
 clear ht
 go_enter Tryz.func110,Tryz.ntmps110
 go_wp2_with fail
 go_ret
 exact ⟨rfl,by repeat (first|exact zr _|assumption|refine za ?_ _|refine zd ?_|refine zn ?_ _|refine Ext.trans ?_ (by assumption))⟩
end Go.Proofs.YtkneghkbgingdaaGreatDoor
/- The reference's Find;a list that is small is not great. -/
namespace Go.Proofs.YtkneghkbgingdaaGreatDoor
set_option maxRecDepth 100000
set_option maxRecDepth 100000
open Go.RowKit Go.ChangeShapes Go.WideShapes Go.Joins
set_option maxHeartbeats 8000000 in
theorem zjR (n c:Nat) (A:Option Addr) (l:List St) (w:World) (hl:Vec shSt w A n l) (hby:Bytes l) (hn:n≤maxLen) (hcap:n≤c) :
  Calls Tryz.prog 76 #[.slice A n c] w (FindR l w):=by
 have HX:=Lib.hid hl
 have hlen:=hl.1
 unfold maxLen at hn
 by_cases hn60:60<n
 ·have q1:((60:Int)<(n:Int)):=by omega
  have HE:=Lib.hid (show findE l=4 by rw [findE,if_pos (by omega)])
  clear hl
  go_enter Tryz.func76,Tryz.ntmps76
  go_wp2_with fail
  go_ret2
  exact FindR.none_ HE.out (by decide) (by repeat (first|exact zr _|assumption|refine za ?_ _|refine zd ?_|refine zn ?_ _|refine Ext.trans ?_ (by assumption)))
 have q1:¬((60:Int)<(n:Int)):=by omega
 clear hl
 go_enter Tryz.func76,Tryz.ntmps76
 go_wp2_with fail
 go_loopw [4] (fun i wr=>∃k:Nat,i = .int .i64 k∧k≤n∧Hid (∀j,j<k→okSt (l.getD j st0)=true)∧Hid (Ext w wr)) (fun i _=>n-(intOf i).toNat)
 case atStart=>exact ⟨0,rfl,by omega,Lib.hid (fun j hj=>absurd hj (by omega)),Lib.hid (by repeat (first|exact zr _|assumption|refine za ?_ _|refine zd ?_|refine zn ?_ _|refine Ext.trans ?_ (by assumption)))⟩
 case round =>
  obtain ⟨k,rfl,hk,HA,HE⟩:=hrel
  have hx:=HE.out
  by_cases hlt:k<n
  ·obtain ⟨b,off,rfl,hb,hc⟩:=Sts.all (HX.out.ext hx) (by omega)
   obtain ⟨c1,c2,c3,c4⟩:=hc k hlt
   have q0:(0:Int)≤(k:Int):=by omega
   have q2:(k:Int)<(n:Int):=by omega
   have HOK:=Lib.hid (show okSt (l.getD k st0)=false→findE l=8 from fun h=>by rw [findE,if_neg (by omega),if_neg (by rw [zcB (n:=n) (k:=k) hlen hlt h];simp)])
   have HA2:=Lib.hid (show okSt (l.getD k st0)=true→∀j,j<k+1→okSt (l.getD j st0)=true from fun h j hj=>by
    by_cases e:j=k
    ·subst e;exact h
    ·exact HA.out j (by omega))
   clear hc
   generalize hs:l.getD k st0=s at *
   obtain ⟨s1,s2,s3,s4⟩:=s
   simp only at c1 c2 c3 c4
   clear hs
   cases hok:okSt ⟨s1,s2,s3,s4⟩
   case false =>
    have HQ:=Lib.hid (show okE ⟨s1,s2,s3,s4⟩=8 by rw [okE,hok];rfl)
    have HF:=Lib.hid (HOK.out hok)
    clear HOK HA2 hok
    go_wp2_with (first
     | (go_at_call 109;((with_reducible refine (za2 s1 s2 s3 s4 _).mono ?_);rintro e w2 ⟨rfl,hq⟩;rw [HQ.out])))
    go_ret2
    exact FindR.none_ HF.out (by decide) (by repeat (first|exact zr _|assumption|refine za ?_ _|refine zd ?_|refine zn ?_ _|refine Ext.trans ?_ (by assumption)))
   case true =>
    have HQ:=Lib.hid (show okE ⟨s1,s2,s3,s4⟩=0 by rw [okE,hok];rfl)
    have HA3:=Lib.hid (HA2.out hok)
    clear HOK HA2 hok
    go_wp2_with (first
     | (go_at_call 109;((with_reducible refine (za2 s1 s2 s3 s4 _).mono ?_);rintro e w2 ⟨rfl,hq⟩;rw [HQ.out])))
    go_roundw
    case rel=>exact ⟨k+1,by go_num,by omega,HA3,Lib.hid (by repeat (first|exact zr _|assumption|refine za ?_ _|refine zd ?_|refine zn ?_ _|refine Ext.trans ?_ (by assumption)))⟩
    case measure=>simp [intOf];omega
  ·obtain rfl:k=n:=by omega
   have HB:=Lib.hid (zel hlen HA.out)
   have HZ0:=Lib.hid (show (0:Int)=((0:Nat):Int) from rfl)
   have hE:findE l=0:=by rw [findE,if_neg (by omega),if_pos HB.out]
   have HF:=Lib.hid hE
   clear hE
   by_cases hn0:k=0
   ·subst hn0
    have e1:l=[]:=List.eq_nil_of_length_eq_zero hlen
    subst e1
    go_wp2_with (first
     | (go_at_call 111;((with_reducible refine (ze3 0 c A [] _ (HX.out.ext (by repeat (first|exact zr _|assumption|refine za ?_ _|refine zd ?_|refine zn ?_ _|refine Ext.trans ?_ (by assumption)))) (by omega) (by omega)).mono ?_);rintro e w2 ⟨A2,c2,rfl,hq2,ht2⟩;have HT2:=Lib.hid ht2;clear ht2))
     | (go_at_call 110;((with_reducible refine (zke c A A2 c2 _ (HT2.out.ext (by repeat (first|exact zr _|assumption|refine za ?_ _|refine zd ?_|refine zn ?_ _|refine Ext.trans ?_ (by assumption))))).mono ?_);rintro e w3 ⟨rfl,hq3⟩)))
    go_ret2
    exact ⟨none,0,rfl,by repeat (first|exact zr _|assumption|refine za ?_ _|refine zd ?_|refine zn ?_ _|refine Ext.trans ?_ (by assumption)),TvK.none_ _ _ _⟩
   have hcnt:=zby k l (by rintro rfl;simp at hlen;omega) (by omega)
   go_wp2_with (first
    | (go_at_call 111;((with_reducible refine (ze3 k c A l _ (HX.out.ext (by repeat (first|exact zr _|assumption|refine za ?_ _|refine zd ?_|refine zn ?_ _|refine Ext.trans ?_ (by assumption)))) (by omega) (by omega)).mono ?_);rintro e w2 ⟨A2,c2,rfl,hq2,ht2⟩;have HT2:=Lib.hid ht2;clear ht2))
    | (go_at_call 110;((with_reducible refine (zj5 k c c2 A A2 l (by omega) hlen hby k 0 k _ (Nat.le_refl _) (by omega) (by omega) (HX.out.ext (by repeat (first|exact zr _|assumption|refine za ?_ _|refine zd ?_|refine zn ?_ _|refine Ext.trans ?_ (by assumption)))) (HT2.out.ext (by repeat (first|exact zr _|assumption|refine za ?_ _|refine zd ?_|refine zn ?_ _|refine Ext.trans ?_ (by assumption)))) (0:Int) (k:Int) HZ0.out rfl).mono ?_);rw [show sub l 0 k=l by rw [←hlen];exact zjB l];rintro e w3 ⟨v1,rfl,hq3,hw3⟩;obtain ⟨A3,c3,rfl,hk3⟩:=zaD hw3 (by omega);have HK3:=Lib.hid hk3;clear hw3 hk3)))
   go_ret2
   have hL:findL l=mkT k l:=by rw [findL,if_pos HF.out,findT,if_neg (by rintro rfl;simp at hlen;omega),hlen]
   have hws:=Below.size hx
   have hws2:=Below.size hq2
   exact ⟨A3,c3,by rw [HF.out,hL];rfl,by repeat (first|exact zr _|assumption|refine za ?_ _|refine zd ?_|refine zn ?_ _|refine Ext.trans ?_ (by assumption)),by rw [hL];exact HK3.out.mono fun b _ hb=>by omega⟩
end Go.Proofs.YtkneghkbgingdaaGreatDoor
/- The terms of a row: the reference's Terms. -/
namespace Go.Proofs.YtkneghkbgingdaaGreatDoor
set_option maxRecDepth 100000
set_option maxRecDepth 100000
open Go.RowKit Go.ChangeShapes Go.WideShapes Go.Joins
attribute [local go_sem] zaw
set_option maxHeartbeats 8000000 in
theorem zhF (n c:Nat) (A:Option Addr) (l:List St) (w:World) (hl:Vec shSt w A n l) (hby:Bytes l) (hn:n≤200) (hnc:n≤c) (ha:allB l=true) :
  Calls Tryz.prog 44 #[.slice A n c] w (TermsR l w):=by
 have HX:=Lib.hid hl
 have hlen:=hl.1
 have HBY:=Lib.hid hby
 by_cases hn60:n≤60
 ·have q1:(n:Int)≤60:=by omega
  have HF:=Lib.hid (zlE hlen ha hn60)
  have HM:=Lib.hid (show n≤maxLen by unfold maxLen;omega)
  clear hl hby ha
  go_enter Tryz.func44,Tryz.ntmps44
  go_wp2_with (first
   | (go_at_call 76;((with_reducible refine (zjR n c A l _ (HX.out.ext (by repeat (first|exact zr _|assumption|refine za ?_ _|refine zd ?_|refine zn ?_ _|refine Ext.trans ?_ (by assumption)))) HBY.out HM.out hnc).mono ?_);rintro e w2 ⟨A2,c2,rfl,he2,ht2⟩;have HE2:=Lib.hid he2;have HT2:=Lib.hid ht2;clear he2 ht2)))
  go_ret
  exact TermsR.of HF.out HT2.out HE2.out
 ·have q1:¬((n:Int)≤60):=by omega
  have HF:=Lib.hid (show runsT l=termsT l by rw [termsT,if_neg (by omega)])
  obtain ⟨zt,hzt,hzs⟩:=zcg
  have HZT:=Lib.hid hzt
  have HZS:=Lib.hid hzs
  clear hzt hzs
  clear hl hby ha
  go_enter Tryz.func44,Tryz.ntmps44
  go_wp2_with fail
  go_loopw [5,6] (fun u i wr=>∃(V:Value) (k q:Nat) (t:Tms),V=u∧i = .int .i64 k∧k≤n∧q≤200∧Hid (runsT (l.take k)=t)∧Hid (OwnT wr w.heap.size 134 V q t∧Ext w wr)) (fun _ i _=>n-(intOf i).toNat)
  case atStart=>exact ⟨_,0,0,.nil,rfl,rfl,Nat.zero_le _,Nat.zero_le _,Lib.hid rfl,Lib.hid ⟨OwnT.nil _ _ _,Ext.refl _⟩⟩
  case round =>
   obtain ⟨V,k,q,t,rfl,rfl,hk,hq,HT,HH⟩:=hrel
   have q0:(0:Int)≤(k:Int):=by omega
   by_cases hlt:k<n
   ·have q2:(k:Int)<(n:Int):=by omega
    have hxr:=HH.out.2
    obtain ⟨b,off,rfl,hb,hc⟩:=Sts.all (HX.out.ext hxr) (by omega)
    obtain ⟨h1,h2,h3,h4⟩:=hc k hlt
    have hbk:=HBY.out k (by omega)
    have hq2:q≤k:=by rw [←HH.out.1.1,←HT.out];exact Nat.le_trans zkz (by rw [List.length_take];omega)
    by_cases hs:0<k∧l.getD k st0=l.getD (k-1) st0
    ·obtain ⟨hk0,heq⟩:=hs
     obtain ⟨t0,N,hN1,hN2,e1,e2⟩:=zjn hk0 (by omega) heq
     obtain rfl:t=t0.app (.cons N (l.getD (k-1) st0) .nil .nil):=HT.out.symm.trans e1
     obtain ⟨g,cap,rfl,hg1,hg2,hg3,hg4,hg5,hg6,hg7⟩:=OwnT.bump HH.out.1 hxr ((N:Int)+1)
     have q3:(0:Int)<(k:Int):=by omega
     have q4:(1:Int)≤(k:Int):=by omega
     have q5:(0:Int)≤(k:Int)-1:=by omega
     have q6:(k:Int)-1<(n:Int):=by omega
     have q7:(1:Int)≤(q:Int):=by omega
     have q8:(q:Int)-1<(q:Int):=by omega
     have i1:=IntWalk.i64_in ((k:Int)-1) (by omega)
     have i3:=IntWalk.i64_in ((N:Int)+1) (by omega)
     have i4:=IntWalk.i64_in ((q:Int)-1) (by omega)
     have i5:=IntWalk.i64_in ((k:Int)+1) (by omega)
     obtain ⟨h5,h6,h7,h8⟩:=hc (k-1) (by omega)
     have e5:((k:Int)-1).toNat=k-1:=by omega
     have e6:((q:Int)-1).toNat=q-1:=by omega
     have HK2:=Lib.hid (fun (w':World) (h:Ext wr w')=>OwnT.bump2 (HH.out.1.ext h) (hxr.trans h) ((N:Int)+1))
     have HR2:=Lib.hid e2
     rw [heq] at h1 h2 h3 h4
     clear hg6 hg7 e1 e2 hc hg3 heq hxr HT HH
     generalize l.getD (k-1) st0=x at *
     obtain ⟨x1,x2,x3,x4⟩:=x
     simp only at h1 h2 h3 h4 h5 h6 h7 h8
     go_wp2_with fail
     go_quiet (fail)
     go_wp2_with fail
     go_roundw
     case rel=>exact ⟨_,k+1,q,_,rfl,by go_num,by omega,by omega,HR2,Lib.hid (HK2.out _ (by repeat (first|exact zr _|assumption|refine za ?_ _|refine zd ?_|refine zn ?_ _|refine Ext.trans ?_ (by assumption))))⟩
     case measure=>simp [intOf] <;> omega
    ·have hs2:k=0∨l.getD k st0≠l.getD (k-1) st0:=by
      by_cases h0:k=0
      ·exact .inl h0
      ·exact .inr fun h=>hs ⟨by omega,h⟩
     have HR2:=Lib.hid ((zhR (by omega) hs2).trans (by rw [HT.out]))
     have HBL:=Lib.hid (show ∀b,wr.heap.size≤b→w.heap.size≤b∧some b≠V.ownBlock from fun b hb=>by
      obtain ⟨_,L,hL,_⟩:=HH.out.1
      exact ⟨Nat.le_trans (Below.size hxr) hb,fun e=>by have:=(zbd hL b e.symm).2;omega⟩)
     have HOW:=Lib.hid (fun (w':World) (h:Ext wr w')=>(HH.out.1).ext h)
     have HXR:=Lib.hid hxr
     have i5:=IntWalk.i64_in ((k:Int)+1) (by omega)
     have HQ1:=Lib.hid (show q+1≤1000000 by omega)
     have hxy:k=0∨(0<k∧¬l.getD k st0=l.getD (k-1) st0):=hs2.imp_right fun h=>⟨by
      by_cases h0:k=0
      ·subst h0;exact absurd rfl h
      ·omega,h⟩
     clear hs hs2 hxr
     rcases hxy with rfl | ⟨hk0,hxy⟩
     ·have q3:¬((0:Int)<((0:Nat):Int)):=by omega
      generalize l.getD 0 st0=x at *
      obtain ⟨x1,x2,x3,x4⟩:=x
      simp only [Nat.zero_mul,Nat.add_zero] at h1 h2 h3 h4 hbk
      have HKK:=Lib.hid hbk
      clear hc hbk
      go_wp2_with fail
      go_quiet (fail)
      go_wp2_with (first
       | (at_builtin;(refine zaF (w:=w) 91 134 zt 56 wr.heap.size 1 ⟨x1,x2,x3,x4⟩ (t:=t) (g := .nil) (A:=none) (n:=0) (cap:=0) (by rfl) (by rfl) Tryz.underlying91 HZT.out HZS.out (by omega) (by rfl) (by rfl) (HOW.out _ (by repeat (first|exact zr _|assumption|refine za ?_ _|refine zd ?_|refine zn ?_ _|refine Ext.trans ?_ (by assumption)))) (HXR.out.trans (by repeat (first|exact zr _|assumption|refine za ?_ _|refine zd ?_|refine zn ?_ _|refine Ext.trans ?_ (by assumption)))) HKK.out (TvK.none_ _ _ _) (zdl _ _ _ _ _ _ _ _) HQ1.out ?_;intro A4 c4 w4 hown4 hext4)))
      exact ⟨⟨_,0+1,q+1,_,rfl,by go_num,by omega,by omega,HR2,Lib.hid ⟨hown4,hext4.out⟩⟩,by simp [intOf];omega⟩
     ·have q3:(0:Int)<(k:Int):=by omega
      have q4:(1:Int)≤(k:Int):=by omega
      have q5:(0:Int)≤(k:Int)-1:=by omega
      have q6:(k:Int)-1<(n:Int):=by omega
      have i1:=IntWalk.i64_in ((k:Int)-1) (by omega)
      have e5:((k:Int)-1).toNat=k-1:=by omega
      obtain ⟨h5,h6,h7,h8⟩:=hc (k-1) (by omega)
      generalize l.getD k st0=x at *
      generalize l.getD (k-1) st0=y at *
      obtain ⟨x1,x2,x3,x4⟩:=x
      obtain ⟨y1,y2,y3,y4⟩:=y
      simp only at h1 h2 h3 h4 h5 h6 h7 h8 hbk
      have HKK:=Lib.hid hbk
      have hne:=zbz hxy
      clear hxy hc hbk
      go_wp2_with fail
      go_quiet (fail)
      go_wp2_with (first
       | (at_builtin;(refine zaF (w:=w) 91 134 zt 56 wr.heap.size 1 ⟨x1,x2,x3,x4⟩ (t:=t) (g := .nil) (A:=none) (n:=0) (cap:=0) (by rfl) (by rfl) Tryz.underlying91 HZT.out HZS.out (by omega) (by rfl) (by rfl) (HOW.out _ (by repeat (first|exact zr _|assumption|refine za ?_ _|refine zd ?_|refine zn ?_ _|refine Ext.trans ?_ (by assumption)))) (HXR.out.trans (by repeat (first|exact zr _|assumption|refine za ?_ _|refine zd ?_|refine zn ?_ _|refine Ext.trans ?_ (by assumption)))) HKK.out (TvK.none_ _ _ _) (zdl _ _ _ _ _ _ _ _) HQ1.out ?_;intro A4 c4 w4 hown4 hext4)))
      exact ⟨⟨_,k+1,q+1,_,rfl,by go_num,by omega,by omega,HR2,Lib.hid ⟨hown4,hext4.out⟩⟩,by simp [intOf];omega⟩
   ·obtain rfl:k=n:=by omega
    rw [List.take_of_length_le (by omega)] at HT
    obtain ⟨A2,c2,rfl,hk2⟩:=zaD HH.out.1 (by omega)
    have HK2:=Lib.hid hk2
    have HE2:=Lib.hid HH.out.2
    have HT2:=Lib.hid (HT.out.symm.trans HF.out)
    clear hk2 HT HH
    go_wp2_with fail
    go_ret
    exact TermsR.of HT2.out HK2.out (HE2.out.trans (by repeat (first|exact zr _|assumption|refine za ?_ _|refine zd ?_|refine zn ?_ _|refine Ext.trans ?_ (by assumption))))
end Go.Proofs.YtkneghkbgingdaaGreatDoor
/- The terms of a row: the program's. -/
namespace Go.Proofs.YtkneghkbgingdaaGreatDoor
set_option maxRecDepth 100000
set_option maxRecDepth 100000
open Go.RowKit Go.ChangeShapes Go.WideShapes Go.Joins
theorem zjk (t:Tms) (N:Int) (c:St) (r:Tms):t.app (.cons N c .nil r)=(t.app (.cons N c .nil .nil)).app r:=by
 rw [zez]
 rfl
theorem zfu {l:List St} {t:Tms} {i j:Nat} (h:runsT l=t.app (runsT (l.drop i))) (hij:i<j) (hj:j≤l.length) (hs:∀p,i≤p→p<j→l.getD p st0=l.getD i st0) (he:j=l.length∨l.getD j st0≠l.getD i st0) :
  runsT l=(t.app (.cons ((j:Int)-(i:Int)) (l.getD i st0) .nil .nil)).app (runsT (l.drop j)):=by
 rw [h,zfW hij hj hs he,zjk]
attribute [local go_sem] zaw
set_option maxHeartbeats 8000000 in
theorem zhk (n c:Nat) (A:Option Addr) (l:List St) (w:World) (hl:Vec shSt w A n l) (hby:Bytes l) (hn:n≤200) (ha:allB l=true) :
  Calls Tryz.prog 72 #[.slice A n c] w (TermsR l w):=by
 have HX:=Lib.hid hl
 have hlen:=hl.1
 have HLN:=Lib.hid hl.1
 have HBY:=Lib.hid hby
 by_cases hn60:n≤60
 ·have q1:(n:Int)≤60:=by omega
  have HF:=Lib.hid (zlE hlen ha hn60)
  have HM:=Lib.hid (show n≤maxLen by unfold maxLen;omega)
  clear hl hby ha
  go_enter Tryz.func72,Tryz.ntmps72
  go_wp2_with (first
   | (go_at_call 103;((with_reducible refine (zlg n c A l _ (HX.out.ext (by repeat (first|exact zr _|assumption|refine za ?_ _|refine zd ?_|refine zn ?_ _|refine Ext.trans ?_ (by assumption)))) HBY.out HM.out).mono ?_);rintro e w2 ⟨A2,c2,rfl,he2,ht2⟩;have HE2:=Lib.hid he2;have HT2:=Lib.hid ht2;clear he2 ht2)))
  go_ret
  exact TermsR.of HF.out HT2.out HE2.out
 ·have q1:¬((n:Int)≤60):=by omega
  have HF:=Lib.hid (show runsT l=termsT l by rw [termsT,if_neg (by omega)])
  obtain ⟨zt,hzt,hzs⟩:=zcg
  have HZT:=Lib.hid hzt
  have HZS:=Lib.hid hzs
  clear hzt hzs
  clear hl hby ha
  go_enter Tryz.func72,Tryz.ntmps72
  go_wp2_with fail
  go_loopw [5,6] (fun u i wr=>∃(V:Value) (k q:Nat) (t:Tms),V=u∧i = .int .i64 k∧k≤n∧q≤k∧Hid (runsT l=t.app (runsT (l.drop k)))∧Hid (OwnT wr w.heap.size 134 V q t∧Ext w wr)) (fun _ i _=>n-(intOf i).toNat)
  case atStart=>exact ⟨_,0,0,.nil,rfl,rfl,Nat.zero_le _,Nat.zero_le _,Lib.hid rfl,Lib.hid ⟨OwnT.nil _ _ _,Ext.refl _⟩⟩
  case round =>
   obtain ⟨V,k,q,t,rfl,rfl,hk,hq,HT,HH⟩:=hrel
   obtain ⟨wa,rfl⟩:∃wa:World,wa=wr:=⟨_,rfl⟩
   have q0:(0:Int)≤(k:Int):=by omega
   by_cases hlt:k<n
   ·have q2:(k:Int)<(n:Int):=by omega
    have i5:=IntWalk.i64_in ((k:Int)+1) (by omega)
    have HXR:=Lib.hid HH.out.2
    have hbk:=HBY.out k (by omega)
    have HKK:=Lib.hid hbk
    have HOW:=Lib.hid (fun (w':World) (h:Ext wa w')=>(HH.out.1).ext h)
    have HQ1:=Lib.hid (show q+1≤1000000 by omega)
    clear hbk HH
    go_wp2_with fail
    go_loopw [7] (fun j wr=>∃m:Nat,j = .int .i64 m∧k<m∧m≤n∧Hid (∀p,k≤p→p<m→l.getD p st0=l.getD k st0)∧Hid (Ext wa wr)) (fun j _=>n-(intOf j).toNat)
    case atStart=>exact ⟨k+1,by go_num,by omega,by omega,Lib.hid (fun p h1 h2=>by rw [show p=k by omega]),Lib.hid (by repeat (first|exact zr _|assumption|refine za ?_ _|refine zd ?_|refine zn ?_ _|refine Ext.trans ?_ (by assumption)))⟩
    case round =>
     obtain ⟨m,rfl,hkm,hmn,HS,HE⟩:=hrel
     obtain ⟨wb,rfl⟩:∃wb:World,wb=wr:=⟨_,rfl⟩
     have m0:(0:Int)≤(m:Int):=by omega
     have i6:=IntWalk.i64_in ((m:Int)+1) (by omega)
     have i7:=IntWalk.i64_in ((m:Int)-(k:Int)) (by omega)
     have e7:((m:Int)-(k:Int)).toNat=m-k:=by omega
     obtain ⟨b,off,rfl,hb,hc⟩:=Sts.all (HX.out.ext (HXR.out.trans HE.out)) (by omega)
     obtain ⟨h1,h2,h3,h4⟩:=hc k hlt
     by_cases hgo:m<n∧l.getD m st0=l.getD k st0
     ·obtain ⟨hm,heq⟩:=hgo
      obtain ⟨h5,h6,h7,h8⟩:=hc m hm
      have p2:(m:Int)<(n:Int):=by omega
      have HN:=Lib.hid (show ∀p,k≤p→p<m+1→l.getD p st0=l.getD k st0 from fun p h1 h2=>by
       by_cases hp:p=m
       ·rw [hp];exact heq
       ·exact HS.out p h1 (by omega))
      rw [heq] at h5 h6 h7 h8
      clear heq hc
      generalize l.getD k st0=x at *
      obtain ⟨x1,x2,x3,x4⟩:=x
      simp only at h1 h2 h3 h4 h5 h6 h7 h8
      go_wp2_with fail
      go_quiet (fail)
      go_wp2_with fail
      go_roundw
      case rel=>exact ⟨m+1,by go_num,by omega,by omega,HN,Lib.hid (HE.out.trans (by repeat (first|exact zr _|assumption|refine za ?_ _|refine zd ?_|refine zn ?_ _|refine Ext.trans ?_ (by assumption))))⟩
      case measure=>simp [intOf] <;> omega
     ·have hex:m=l.length∨l.getD m st0≠l.getD k st0:=by
       by_cases hm:m<n
       ·exact .inr fun h=>hgo ⟨hm,h⟩
       ·exact .inl (by omega)
      have HR2:=Lib.hid (zfu HT.out hkm (by omega) HS.out hex)
      have hxy:m=n∨(m<n∧¬l.getD m st0=l.getD k st0):=by
       by_cases hm:m<n
       ·exact .inr ⟨hm,fun h=>hgo ⟨hm,h⟩⟩
       ·exact .inl (by omega)
      have HBL:=Lib.hid (show ∀b,wb.heap.size≤b→w.heap.size≤b∧some b≠V.ownBlock from fun b hb=>by
       obtain ⟨_,L,hL,_⟩:=HOW.out wb HE.out
       exact ⟨Nat.le_trans (Below.size (HXR.out.trans HE.out)) hb,fun e=>by have:=(zbd hL b e.symm).2;omega⟩)
      clear hex hgo HT HS
      rcases hxy with rfl | ⟨hm,hxy⟩
      ·have p2:¬((m:Int)<(m:Int)):=by omega
       generalize l.getD k st0=x at *
       obtain ⟨x1,x2,x3,x4⟩:=x
       simp only at h1 h2 h3 h4
       clear hc
       go_wp2_with fail
       go_quiet (fail)
       go_wp2_with (first
        | (at_builtin;(refine zaF (w:=w) 91 134 zt 56 wb.heap.size ((m:Int)-(k:Int)) ⟨x1,x2,x3,x4⟩ (t:=t) (g := .nil) (A:=none) (n:=0) (cap:=0) (by rfl) (by rfl) Tryz.underlying91 HZT.out HZS.out (by omega) (by rfl) (by rfl) (HOW.out _ (HE.out.trans (by repeat (first|exact zr _|assumption|refine za ?_ _|refine zd ?_|refine zn ?_ _|refine Ext.trans ?_ (by assumption))))) (HXR.out.trans (HE.out.trans (by repeat (first|exact zr _|assumption|refine za ?_ _|refine zd ?_|refine zn ?_ _|refine Ext.trans ?_ (by assumption))))) HKK.out (TvK.none_ _ _ _) (zdl _ _ _ _ _ _ _ _) HQ1.out ?_;intro A4 c4 w4 hown4 hext4)))
       exact ⟨⟨_,m,q+1,_,rfl,rfl,by omega,by omega,HR2,Lib.hid ⟨hown4,hext4.out⟩⟩,by simp [intOf];omega⟩
      ·have p2:(m:Int)<(n:Int):=by omega
       obtain ⟨h5,h6,h7,h8⟩:=hc m hm
       generalize l.getD k st0=x at *
       generalize l.getD m st0=y at *
       obtain ⟨x1,x2,x3,x4⟩:=x
       obtain ⟨y1,y2,y3,y4⟩:=y
       simp only at h1 h2 h3 h4 h5 h6 h7 h8
       have hne:=zbz hxy
       clear hxy hc
       go_wp2_with fail
       go_quiet (fail)
       go_wp2_with (first
        | (at_builtin;(refine zaF (w:=w) 91 134 zt 56 wb.heap.size ((m:Int)-(k:Int)) ⟨x1,x2,x3,x4⟩ (t:=t) (g := .nil) (A:=none) (n:=0) (cap:=0) (by rfl) (by rfl) Tryz.underlying91 HZT.out HZS.out (by omega) (by rfl) (by rfl) (HOW.out _ (HE.out.trans (by repeat (first|exact zr _|assumption|refine za ?_ _|refine zd ?_|refine zn ?_ _|refine Ext.trans ?_ (by assumption))))) (HXR.out.trans (HE.out.trans (by repeat (first|exact zr _|assumption|refine za ?_ _|refine zd ?_|refine zn ?_ _|refine Ext.trans ?_ (by assumption))))) HKK.out (TvK.none_ _ _ _) (zdl _ _ _ _ _ _ _ _) HQ1.out ?_;intro A4 c4 w4 hown4 hext4)))
       exact ⟨⟨_,m,q+1,_,rfl,rfl,by omega,by omega,HR2,Lib.hid ⟨hown4,hext4.out⟩⟩,by simp [intOf];omega⟩
   ·obtain rfl:k=n:=by omega
    have hTT:runsT l=t:=by
     have h9:=HT.out
     rw [List.drop_eq_nil_of_le (by omega)] at h9
     rw [h9]
     exact zmF t
    obtain ⟨A2,c2,rfl,hk2⟩:=zaD HH.out.1 (by omega)
    have HK2:=Lib.hid hk2
    have HE2:=Lib.hid HH.out.2
    have HT2:=Lib.hid (hTT.symm.trans HF.out)
    clear hk2 HT HH hTT
    go_wp2_with fail
    go_ret
    exact TermsR.of HT2.out HK2.out (HE2.out.trans (by repeat (first|exact zr _|assumption|refine za ?_ _|refine zd ?_|refine zn ?_ _|refine Ext.trans ?_ (by assumption))))
end Go.Proofs.YtkneghkbgingdaaGreatDoor
/- The line of a row. -/
namespace Go.Proofs.YtkneghkbgingdaaGreatDoor
set_option maxRecDepth 100000
set_option maxRecDepth 100000
open Go.RowKit Go.ChangeShapes Go.WideShapes Go.Joins
def LineR (r:Ro) (w:World) (e:Ending) (w':World):Prop:=Ext w w'∧((lineT r=none∧e = .returned (.tuple #[.string ⟨#[]⟩,.int .i64 4]))∨∃s,lineT r=some s∧e = .returned (.tuple #[.string ⟨s.toArray⟩,.int .i64 0]))
theorem LineR.no {r:Ro} {w w':World} (h:lineT r=none) (hb:Ext w w'):LineR r w (.returned (.tuple #[.string ⟨#[]⟩,.int .i64 4])) w':=⟨hb,.inl ⟨h,rfl⟩⟩
theorem LineR.yes {r:Ro} {s:List UInt8} {w w':World} (h:lineT r=some s) (hb:Ext w w'):LineR r w (.returned (.tuple #[.string ⟨s.toArray⟩,.int .i64 0])) w':=⟨hb,.inr ⟨s,h,rfl⟩⟩
theorem zdx {l:List St} (ha:allB l=true) (hl:l.length≤200):(termsT l).size≤200:=(zaG (zbY ha hl).1).1
theorem zeG {l:List St} (ha:allB l=true) (hl:l.length≤200):(ttextE (termsT l)=0∧ttextV (termsT l)=wT (termsT l)∧(wT (termsT l)).length≤3000)∨(ttextE (termsT l)=4∧ttextV (termsT l)=[]):=by
 have h1:=(zbY ha hl).1
 by_cases h:3000<(wT (termsT l)).length
 ·right
  have h2:ttextE (termsT l)=4:=by rw [ttextE,if_neg (fun h9=>h9 h1),if_pos h]
  exact ⟨h2,by rw [ttextV,h2,if_neg (by decide)]⟩
 ·left
  have h2:ttextE (termsT l)=0:=by rw [ttextE,if_neg (fun h9=>h9 h1),if_neg h]
  exact ⟨h2,by rw [ttextV,if_pos h2],by omega⟩
set_option maxHeartbeats 4000000 in
theorem zjE (rb:Bool) (cs:List St) (A:Option Addr) (n c:Nat) (w:World) (hv:Vec shSt w A n cs) (hby:Bytes cs) (hn:n≤200) (ha:allB cs=true) (hg:Glob w) :
  Calls Tryz.prog 38 #[.agg #[.bool rb,.slice A n c]] w (LineR ⟨rb,cs⟩ w):=by
 have HV:=Lib.hid hv
 have HG:=Lib.hid hg
 have HB0:=Lib.hid (show Ext w (w.alloc (.cells #[.bool rb,.slice A n c] 75)) from (Ext.refl w).alloc _)
 have hlen:=hv.1
 have HTM:=Lib.hid (fun (w':World) (h:Ext w w')=>zhk n c A cs w' (hv.ext h) hby hn ha)
 have HTX:=Lib.hid (fun (A:Option Addr) (n cap:Nat) (w':World) (h:Ext w w') (ht:Tv w' A n (termsT cs))=>zey (termsT cs) (by have:=zdx ha (by omega);omega) A n cap w' ht (hg.ext h))
 have hcs:=zeG ha (by omega)
 have hlt:lineT ⟨rb,cs⟩=if ttextE (termsT cs)≠0 then none else some (sideB rb++if wT (termsT cs)=[] then [] else 32::wT (termsT cs)):=rfl
 rcases hcs with ⟨h1,h2,h3⟩ | ⟨h1,h2⟩
 ·have HT1:=Lib.hid h1
  have HT2:=Lib.hid h2
  rw [if_neg (fun h9=>h9 h1)] at hlt
  obtain ⟨T,hT⟩:∃T,wT (termsT cs)=T:=⟨_,rfl⟩
  rw [hT] at hlt h3
  have HT3:=Lib.hid hT
  clear hv hby ha hg h1 h2 hT
  by_cases h0:T=[]
  ·rw [if_pos h0,List.append_nil] at hlt
   have HL:=Lib.hid hlt
   subst h0
   clear hlt
   cases rb <;>
   ·go_enter Tryz.func38,Tryz.ntmps38
    go_wp2_with (first
     | (go_at_call 72;((with_reducible refine (HTM.out _ (by repeat (first|exact zr _|assumption|refine za ?_ _|refine zd ?_|refine zn ?_ _|refine Ext.trans ?_ (by assumption)))).mono ?_);rintro e w1 ⟨A1,c1,rfl,hq1,hv1⟩;have HV1:=Lib.hid hv1;clear hv1))
     | (go_at_call 71;((with_reducible refine (HTX.out _ _ _ _ (by repeat (first|exact zr _|assumption|refine za ?_ _|refine zd ?_|refine zn ?_ _|refine Ext.trans ?_ (by assumption))) HV1.out.tv).mono ?_);rintro e w2 ⟨rfl,hq2⟩;rw [HT1.out,HT2.out,HT3.out])))
    go_ret2
    exact LineR.yes HL.out (by repeat (first|exact zr _|assumption|refine za ?_ _|refine zd ?_|refine zn ?_ _|refine Ext.trans ?_ (by assumption)))
  ·rw [if_neg h0] at hlt
   obtain ⟨S1,hS1⟩:∃S1,sideB rb++[32]=S1:=⟨_,rfl⟩
   obtain ⟨S2,hS2⟩:∃S2,S1++T=S2:=⟨_,rfl⟩
   have HL:=Lib.hid (show lineT ⟨rb,cs⟩=some S2 by rw [hlt,←hS2,←hS1,List.append_assoc];rfl)
   have hq9:(T==[])=false:=by simpa using h0
   have hsl1:S1.length≤6:=by rw [←hS1];cases rb <;> decide
   have hsl2:S2.length≤3006:=by rw [←hS2,List.length_append];omega
   have hcs2:(⟨S1.toArray⟩++⟨T.toArray⟩:ByteArray)=⟨S2.toArray⟩:=by rw [←hS2];exact zab S1 T
   have hcs1:(⟨(sideB rb).toArray⟩++⟨#[32]⟩:ByteArray)=⟨S1.toArray⟩:=by rw [←hS1];exact zab (sideB rb) [32]
   clear hlt hS1 hS2 h0
   cases rb <;>
   ·first
     | (have hcs3:(⟨#[102,114,111,110,116]⟩++⟨#[32]⟩:ByteArray)=⟨S1.toArray⟩:=hcs1)
     | (have hcs3:(⟨#[98,97,99,107]⟩++⟨#[32]⟩:ByteArray)=⟨S1.toArray⟩:=hcs1)
    clear hcs1
    go_enter Tryz.func38,Tryz.ntmps38
    go_wp2_with (first
     | (go_at_call 72;((with_reducible refine (HTM.out _ (by repeat (first|exact zr _|assumption|refine za ?_ _|refine zd ?_|refine zn ?_ _|refine Ext.trans ?_ (by assumption)))).mono ?_);rintro e w1 ⟨A1,c1,rfl,hq1,hv1⟩;have HV1:=Lib.hid hv1;clear hv1))
     | (go_at_call 71;((with_reducible refine (HTX.out _ _ _ _ (by repeat (first|exact zr _|assumption|refine za ?_ _|refine zd ?_|refine zn ?_ _|refine Ext.trans ?_ (by assumption))) HV1.out.tv).mono ?_);rintro e w2 ⟨rfl,hq2⟩;rw [HT1.out,HT2.out,HT3.out])))
    go_ret2
    exact LineR.yes HL.out (by repeat (first|exact zr _|assumption|refine za ?_ _|refine zd ?_|refine zn ?_ _|refine Ext.trans ?_ (by assumption)))
 ·have HT1:=Lib.hid h1
  have HT2:=Lib.hid h2
  have HL:=Lib.hid (show lineT ⟨rb,cs⟩=none by rw [hlt,h1];rfl)
  clear hv hby ha hg h1 h2 hlt
  cases rb <;>
  ·go_enter Tryz.func38,Tryz.ntmps38
   go_wp2_with (first
    | (go_at_call 72;((with_reducible refine (HTM.out _ (by repeat (first|exact zr _|assumption|refine za ?_ _|refine zd ?_|refine zn ?_ _|refine Ext.trans ?_ (by assumption)))).mono ?_);rintro e w1 ⟨A1,c1,rfl,hq1,hv1⟩;have HV1:=Lib.hid hv1;clear hv1))
    | (go_at_call 71;((with_reducible refine (HTX.out _ _ _ _ (by repeat (first|exact zr _|assumption|refine za ?_ _|refine zd ?_|refine zn ?_ _|refine Ext.trans ?_ (by assumption))) HV1.out.tv).mono ?_);rintro e w2 ⟨rfl,hq2⟩;rw [HT1.out,HT2.out])))
   go_ret2
   exact LineR.no HL.out (by repeat (first|exact zr _|assumption|refine za ?_ _|refine zd ?_|refine zn ?_ _|refine Ext.trans ?_ (by assumption)))
end Go.Proofs.YtkneghkbgingdaaGreatDoor
/- Patterns in memory. -/
namespace Go.Proofs.YtkneghkbgingdaaGreatDoor
set_option maxRecDepth 100000
open Go.RowKit Go.ChangeShapes Go.WideShapes Go.Joins
def shStf:Shp Stf where
 size:=2
 cells x:=[.string ⟨x.nm.toArray⟩,.int .i64 x.g]
 pos:=by omega
 len _:=rfl
 one x u h:=by
  simp at h
  rcases h with h | h <;> subst h <;> rfl
theorem Stf.at_ {w:World} {A:Option Addr} {n:Nat} {l:List Stf} (h:Vec shStf w A n l) {k:Nat} (hk:k<n) :
  ∃(b off:Nat),A=some ⟨b,off,none⟩∧b<w.heap.size∧w.cell? ⟨b,off+k*2,none⟩=some (.string ⟨(stN l k).toArray⟩)∧w.cell? ⟨b,off+k*2+1,none⟩=some (.int .i64 (l.getD k stf0).g):=by
 obtain ⟨b,off,e,hlt,hc⟩:=h.2 (by omega)
 have hx:l[k]?=some (l.getD k stf0):=by
  rw [List.getD_eq_getElem?_getD,List.getElem?_eq_getElem (by rw [h.1];exact hk)];rfl
 exact ⟨b,off,e,hlt,hc k _ hx 0 _ rfl,hc k _ hx 1 _ rfl⟩
section
variable {H:Type} {enc:TypeId×Value→H} {w:World} {base:Nat} {spare:Nat→Bool} {held:Bool}
theorem zhW {P:Program} {t e:TypeId} {A:Option Addr} {n c fuel:Nat} {y:DataW H×List MemPlace} (ht:P.underlying t=some (.slice e)) (h:DataW.trod enc P w base spare held fuel t [.slice A n c]=some y):n≤c:=by
 rcases Go.Deep.open_slice ht h with ⟨hcs,_⟩ | ⟨a,len,cap,m,n,D,Pl,hcs,_,hl,_⟩
 ·simp only [List.cons.injEq,and_true,Value.slice.injEq] at hcs
  omega
 ·simp only [List.cons.injEq,and_true,Value.slice.injEq] at hcs
  omega
end
end Go.Proofs.YtkneghkbgingdaaGreatDoor
