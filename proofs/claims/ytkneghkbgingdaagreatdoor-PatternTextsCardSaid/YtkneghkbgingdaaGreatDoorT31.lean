/- The reference's Parse of terms: it returns what Parse returns. -/
import Derived.Test.YtkneghkbgingdaaGreatDoorT29
import Derived.Test.YtkneghkbgingdaaGreatDoorT30
import Derived.Test.YtkneghkbgingdaaGreatDoorT16
set_option maxHeartbeats 16000000
namespace Go.Proofs.YtkneghkbgingdaaGreatDoor
set_option maxRecDepth 100000
open Go.RowKit Go.ChangeShapes Go.WideShapes Go.Joins
theorem zos:∀f,(∀d k s t,rlL f d k s=some t->t.size<=s.length)/\(∀d s n c g,rlT f d s=some (n,c,g)->1+g.size<=s.length)/\(∀d m s n c g,rlB f d m s=some (n,c,g)->1+g.size<=s.length):=by
 intro f
 induction f with
 | zero =>
  refine ⟨fun d k s t h=>?_,fun d s n c g h=>?_,fun d m s n c g h=>?_⟩
  ·rw [rlL] at h;cases h
  ·rw [rlT] at h;cases h
  ·rw [rlB] at h;cases h
 | succ f ih =>
  obtain ⟨ihL,ihT,ihB⟩:=ih
  refine ⟨fun d k s t h=>?_,fun d s n c g h=>?_,fun d m s n c g h=>?_⟩
  ·rw [rlL] at h
   have aa:=congrArg List.length (zhw s 0)
   rw [Zb] at aa
   split at h
   ·cases h
   ·rename_i n c g hT
    have h1:=ihT _ _ _ _ _ hT
    split at h
    ·cases h
    ·split at h
     ·cases h
      simp only [Tms.size]
      omega
     ·rename_i x s2 hy
      rw [hy,Zk] at aa
      split at h
      ·obtain ⟨r,h9,rfl⟩:=ZH.1 h
       have h2:=ihL _ _ _ _ h9
       simp only [Tms.size]
       omega
      ·cases h
  ·rw [rlT] at h
   split at h
   ·split at h
    ·cases h
    ·split at h
     ·cases h
     ·have h1:=ihB _ _ _ _ _ _ h
      have h2:=congrArg List.length (zhq s)
      rw [Zb] at h2
      rw [List.length_dropLast] at h1
      omega
   ·exact ihB _ _ _ _ _ _ h
  ·rw [rlB] at h
   split at h
   ·rename_i h0
    split at h
    ·cases h
    ·obtain ⟨r,h9,e⟩:=ZH.1 h
     cases e
     have h1:=ihL _ _ _ _ h9
     rw [List.length_dropLast,Zu] at h1
     have:=h0.1
     omega
   ·split at h
    ·rename_i c' hp
     cases h
     have h1:=zhV hp
     have h2:=ZM.2 h1
     simp only [Tms.size]
     omega
    ·cases h
theorem ziD {f d:Nat} {s:List UInt8} {t:Tms} (h:listP f d s=some t):t.size<=s.length:=by
 unfold listP at h
 split at h
 ·cases h
  simp [Tms.size]
 ·exact (zos f).1 _ _ _ _ h
theorem zcd (s:List UInt8) (hl0:s.length<=10000) (w:World):Calls Tryz.prog 117 #[.string ⟨s.toArray⟩] w (PTR s w):=by
 have ac:=(ziZ zhh s).symm
 by_cases h3:3000<s.length
 ·have hN:=Za (show parseT atoiO s=none by rw [ac,rparseT,if_pos h3])
  have q1:(3000:Int)<(s.length:Int):=by omega
  clear ac
  go_enter Tryz.func117,Tryz.ntmps117
  go_wp2_with fail
  go_ret2
  exact PTR.no hN.out zx
 have q1:¬((3000:Int)<(s.length:Int)):=by omega
 have aa:parseT atoiO s=(listP (3*s.length+3) 8 s).bind fun t=>if tchkE t=0/\wT t=s then some t else none:=by rw [ac,rparseT,if_neg h3];rfl
 have ae:=Za (fun (w':World)=>zkS (3*s.length+3) 8 s w' 8 rfl (by omega) hl0 (Zg _))
 clear ac
 cases hq:listP (3*s.length+3) 8 s with
 | none =>
  have hN:=Za (show parseT atoiO s=none by rw [aa,hq];rfl)
  have HQ:=Za hq
  clear aa hq
  go_enter Tryz.func117,Tryz.ntmps117
  go_wp2_with (first
   | (go_at_call 150;((with_reducible refine (ae.out _).mono ?_);rintro e w1 ⟨hb,hn, -⟩;have h9:=hn HQ.out;subst h9;have HB:=Za hb;clear hb hn)))
  go_ret2
  exact PTR.no hN.out HB.out
 | some t =>
  have hts:=ziD hq
  have htc:=zfA hq
  have HQ:=Za hq
  rw [hq,Zz] at aa
  have ad:=Za (fun (A:Option Addr) (n cap:Nat) (w':World) (hv:Tv w' A n t)=>zbI t (by omega) A n cap w' hv)
  have ab:=Za (fun (w':World)=>(show Calls Tryz.prog 150 #[.string ⟨s.toArray⟩,.int .i64 8] w' (fun e w''=>∃A c,e = .returned (.tuple #[.slice A t.cnt c,.bool true])/\Ext w' w''/\OwnT w'' w'.heap.size 134 (.slice A t.cnt c) t.cnt t) from by
   refine (ae.out w').mono ?_
   rintro e w1 ⟨hb, -,hy⟩
   obtain ⟨v,rfl,ho⟩:=hy t HQ.out
   obtain ⟨A,c,rfl, -⟩:=zaA ho (by omega)
   exact ⟨A,c,rfl,hb,ho⟩))
  clear hq ae
  obtain ⟨X,hX⟩:∃X,tchkE t=X:=⟨_,rfl⟩
  have HX:=Za hX
  by_cases h0:X=0
  ·have ah:=(zaN (hX.trans h0)).2.2
   have ag:=Za (fun (A:Option Addr) (n cap:Nat) (w':World) (hv:Tv w' A n t)=>zcY 5000 (Zg _) t (by omega) ah A n cap w' hv)
   obtain ⟨T,hT⟩:∃T,wT t=T:=⟨_,rfl⟩
   rw [hX,hT] at aa
   have af:=Za hT
   clear hX hT ah
   subst h0
   by_cases h1:T=s
   ·subst h1
    have hN:=Za (show parseT atoiO T=some t by rw [aa];simp)
    clear aa
    go_enter Tryz.func117,Tryz.ntmps117
    go_wp2_with (first
     | (go_at_call 150;((with_reducible refine (ab.out _).mono ?_);rintro e w1 ⟨A,c,rfl,hq1,ho⟩;have HO:=Za ho;have HV:=Za ((zd3 ho (by omega)));clear ho))
     | (go_at_call 74;((with_reducible refine (ad.out _ _ _ _ (HV.out.ext zx)).mono ?_);rintro e w2 ⟨rfl,hq2⟩;rw [HX.out]))
     | (go_at_call 75;((with_reducible refine (ag.out _ _ _ _ (HV.out.ext zx)).mono ?_);rintro e w3 ⟨rfl,ai⟩;rw [af.out])))
    go_ret2
    exact PTR.yes hN.out zx (HO.out.ext zx)
   ·have hN:=Za (show parseT atoiO s=none by rw [aa];simp [h1])
    have hne:(T==s)=false:=by simpa using h1
    have hne2:(T != s)=true:=by simpa using h1
    clear aa h1
    go_enter Tryz.func117,Tryz.ntmps117
    go_wp2_with (first
     | (go_at_call 150;((with_reducible refine (ab.out _).mono ?_);rintro e w1 ⟨A,c,rfl,hq1,ho⟩;have HO:=Za ho;have HV:=Za ((zd3 ho (by omega)));clear ho))
     | (go_at_call 74;((with_reducible refine (ad.out _ _ _ _ (HV.out.ext zx)).mono ?_);rintro e w2 ⟨rfl,hq2⟩;rw [HX.out]))
     | (go_at_call 75;((with_reducible refine (ag.out _ _ _ _ (HV.out.ext zx)).mono ?_);rintro e w3 ⟨rfl,ai⟩;rw [af.out])))
    go_ret2
    exact PTR.no hN.out zx
  ·rw [hX] at aa
   have hN:=Za (show parseT atoiO s=none by rw [aa];simp [h0])
   have hne:(X != 0)=true:=by simpa using h0
   clear aa h0 hX
   go_enter Tryz.func117,Tryz.ntmps117
   go_wp2_with (first
    | (go_at_call 150;((with_reducible refine (ab.out _).mono ?_);rintro e w1 ⟨A,c,rfl,hq1,ho⟩;have HO:=Za ho;have HV:=Za ((zd3 ho (by omega)));clear ho))
    | (go_at_call 74;((with_reducible refine (ad.out _ _ _ _ (HV.out.ext zx)).mono ?_);rintro e w2 ⟨rfl,hq2⟩;rw [HX.out])))
   go_ret2
   exact PTR.no hN.out zx
end Go.Proofs.YtkneghkbgingdaaGreatDoor
/- The reference's row of a line. -/
namespace Go.Proofs.YtkneghkbgingdaaGreatDoor
set_option maxRecDepth 100000
open Go.RowKit Go.ChangeShapes Go.WideShapes Go.Joins
theorem zcM (s h:List UInt8) (hh:h.length<=1000) (w:World) :
  Calls Tryz.prog 54 #[.string ⟨s.toArray⟩,.string ⟨h.toArray⟩] w fun e w'=>e = .returned (.bool (decide (s.take h.length=h)))/\Ext w w':=by
 by_cases hl:h.length<=s.length
 ·have q1:(h.length:Int)<=(s.length:Int):=by omega
  have q2:(0:Int)<=(h.length:Int):=by omega
  have hx:=zar s h.length
  obtain ⟨b,hb⟩:∃b,(s.take h.length==h)=b:=⟨_,rfl⟩
  have HB:=Za (show decide (s.take h.length=h)=b by rw [<-hb];by_cases h9:s.take h.length=h <;> simp [h9])
  go_enter Tryz.func54,Tryz.ntmps54
  go_wp2_with fail
  all_goals
   go_ret
   exact ⟨by rw [HB.out];rfl,zx⟩
 ·have q1:¬((h.length:Int)<=(s.length:Int)):=by omega
  have HB:=Za (show decide (s.take h.length=h)=false from ZF fun e=>by
   have h9:=congrArg List.length e
   rw [Zx] at h9
   omega)
  go_enter Tryz.func54,Tryz.ntmps54
  go_wp2_with fail
  all_goals
   go_ret
   exact ⟨by rw [HB.out];rfl,zx⟩
def RowR (s:List UInt8) (w:World) (e:Ending) (w':World):Prop:=∃(b:Bool) (A:Option Addr) (n c:Nat) (ok:Bool),e = .returned (.tuple #[.agg #[.bool b,.slice A n c],.bool ok])/\Ext w w' /\
 ((rowR atoiO s=none/\ok=false)∨∃cs,rowR atoiO s=some ⟨b,cs⟩/\ok=true/\Vec shSt w' A n cs/\Bytes cs/\n<=maxLen/\(0<n->∀b off,A=some ⟨b,off,none⟩->w.heap.size<=b)/\n<=c)
theorem RowR.no {s:List UInt8} {b:Bool} {A:Option Addr} {n c:Nat} {w w':World} (h:rowR atoiO s=none) (hb:Ext w w'):RowR s w (.returned (.tuple #[.agg #[.bool b,.slice A n c],.bool false])) w':=⟨_,_,_,_,_,rfl,hb,.inl ⟨h,rfl⟩⟩
theorem RowR.yes {s:List UInt8} {b:Bool} {A:Option Addr} {n c:Nat} {cs:List St} {w w':World} (h:rowR atoiO s=some ⟨b,cs⟩) (hb:Ext w w') (h1:Vec shSt w' A n cs) (h2:Bytes cs) (h3:n<=maxLen) (h4:0<n->∀b off,A=some ⟨b,off,none⟩->w.heap.size<=b) (h5:n<=c) :
  RowR s w (.returned (.tuple #[.agg #[.bool b,.slice A n c],.bool true])) w':=⟨_,_,_,_,_,rfl,hb,.inr ⟨cs,h,rfl,h1,h2,h3,h4,h5⟩⟩
structure RB (w wx:World) (B:Bool) (V:Value):Prop where
 ex:Ext w wx
 r0:wx.cell? ⟨w.heap.size,0,none⟩=some (.bool false)
 r1:wx.cell? ⟨w.heap.size,1,none⟩=some (.slice none 0 0)
 q0:wx.cell? ⟨w.heap.size+1,0,none⟩=some (.bool B)
 q1:wx.cell? ⟨w.heap.size+1,1,none⟩=some V
 z0:∀o,wx.frozen? ⟨w.heap.size,o,none⟩=false
 z1:∀o,wx.frozen? ⟨w.heap.size+1,o,none⟩=false
 lt:w.heap.size+1<wx.heap.size
theorem RB.ext {w wx wy:World} {B:Bool} {V:Value} (h:RB w wx B V) (hb:Ext wx wy):RB w wy B V:=by
 obtain ⟨hc,hf,hz⟩:=hb.facts
 have:=h.lt
 exact ⟨h.ex.trans hb,(hc _ _ (by omega)).trans h.r0,(hc _ _ (by omega)).trans h.r1,(hc _ _ (by omega)).trans h.q0,(hc _ _ (by omega)).trans h.q1,fun o=>(hf _ _ (by omega)).trans (h.z0 o),fun o=>(hf _ _ (by omega)).trans (h.z1 o),hz _ h.lt⟩
theorem RB.facts {w wx:World} {B:Bool} {V:Value} (h:RB w wx B V):wx.cell? ⟨w.heap.size,0,none⟩=some (.bool false)/\wx.cell? ⟨w.heap.size,1,none⟩=some (.slice none 0 0)/\wx.cell? ⟨w.heap.size+1,0,none⟩=some (.bool B)/\wx.cell? ⟨w.heap.size+1,1,none⟩=some V /\
  (∀o,wx.frozen? ⟨w.heap.size,o,none⟩=false)/\(∀o,wx.frozen? ⟨w.heap.size+1,o,none⟩=false)/\w.heap.size+1<wx.heap.size:=⟨h.r0,h.r1,h.q0,h.q1,h.z0,h.z1,h.lt⟩
theorem RB.start (w:World):RB w ((w.alloc (.cells #[.bool false,.slice none 0 0] 75)).alloc (.cells #[.bool false,.slice none 0 0] 75)) false (.slice none 0 0):=by
 refine ⟨((Zf w).alloc _).alloc _,?_,?_,by simp [go_sem],by simp [go_sem],fun o=>?_,fun o=>by simp [go_sem],by simp⟩
 ·rw [Zs (p:=⟨w.heap.size,0,none⟩) ((Zf (w.alloc (.cells #[.bool false,.slice none 0 0] 75))).alloc _) (by simp)]
  simp [go_sem]
 ·rw [Zs (p:=⟨w.heap.size,1,none⟩) ((Zf (w.alloc (.cells #[.bool false,.slice none 0 0] 75))).alloc _) (by simp)]
  simp [go_sem]
 ·rw [((Zf (w.alloc (.cells #[.bool false,.slice none 0 0] 75))).alloc _).facts.2.1 _ _ (by simp)]
  simp [go_sem]
theorem RB.back {w wx:World} {B:Bool} {V:Value} (h:RB w wx B V) (b:Bool):RB w (wx.setCell ⟨w.heap.size+1,0,none⟩ (.bool b)) b V:=by
 refine ⟨Zr h.ex (by simp) _,?_,?_,ZJ _ _ _ h.q0,?_,fun o=>(Zw _ _ _ _).trans (h.z0 o),fun o=>(Zw _ _ _ _).trans (h.z1 o),by simpa using h.lt⟩
 ·rw [Zj _ _ _ _ (by simp)];exact h.r0
 ·rw [Zj _ _ _ _ (by simp)];exact h.r1
 ·rw [Zj _ _ _ _ (by simp)];exact h.q1
theorem RB.cells {w wx:World} {B:Bool} {V:Value} (h:RB w wx B V) (V2:Value):RB w (wx.setCell ⟨w.heap.size+1,1,none⟩ V2) B V2:=by
 refine ⟨Zr h.ex (by simp) _,?_,?_,?_,ZJ _ _ _ h.q1,fun o=>(Zw _ _ _ _).trans (h.z0 o),fun o=>(Zw _ _ _ _).trans (h.z1 o),by simpa using h.lt⟩
 ·rw [Zj _ _ _ _ (by simp)];exact h.r0
 ·rw [Zj _ _ _ _ (by simp)];exact h.r1
 ·rw [Zj _ _ _ _ (by simp)];exact h.q0
theorem RB.fin {w wx:World} {B:Bool} {V:Value} (h:RB w wx B V):Ext w ((wx.setCell ⟨w.heap.size,0,none⟩ (.bool B)).setCell ⟨w.heap.size,1,none⟩ V):=Zr (Zr h.ex (by simp) _) (by simp) _
theorem zbp {w:World} {g:Nat} {u0 u1 v0 v1:Value} (h0:w.cell? ⟨g,0,none⟩=some u0) (h1:w.cell? ⟨g,1,none⟩=some u1):(w.setCell ⟨g,0,none⟩ v0).cell? ⟨g,0,none⟩=some v0/\((w.setCell ⟨g,0,none⟩ v0).setCell ⟨g,1,none⟩ v1).cell? ⟨g,1,none⟩=some v1 :=
 ⟨ZJ w ⟨g,0,none⟩ v0 h0,ZJ _ ⟨g,1,none⟩ v1 ((Zj w ⟨g,0,none⟩ ⟨g,1,none⟩ v0 (by simp)).trans h1)⟩
theorem zkV {s:List UInt8} (h:(s==[102,114,111,110,116])=true∨decide (s.take 6=[102,114,111,110,116,32])=true):rowR atoiO s=if s.drop 5=[] then some ⟨false,[]⟩ else (parseT atoiO ((s.drop 5).drop 1)).map fun t=>⟨false,t.cells⟩:=by
 rw [rowR]
 refine if_pos ?_
 rcases h with h | h
 ·exact .inl (by simpa [sideB] using h)
 ·exact .inr (of_decide_eq_true h)
theorem zmL {s:List UInt8} (h1:(s==[102,114,111,110,116])=false) (h2:decide (s.take 6=[102,114,111,110,116,32])=false) (h:(s==[98,97,99,107])=true∨decide (s.take 5=[98,97,99,107,32])=true) :
  rowR atoiO s=if s.drop 4=[] then some ⟨true,[]⟩ else (parseT atoiO ((s.drop 4).drop 1)).map fun t=>⟨true,t.cells⟩:=by
 rw [rowR,if_neg (by rintro (h9 | h9);exact absurd h9 (by simpa [sideB] using h1);exact absurd h9 (of_decide_eq_false h2))]
 refine if_pos ?_
 rcases h with h | h
 ·exact .inl (by simpa [sideB] using h)
 ·exact .inr (of_decide_eq_true h)
theorem zmN {s:List UInt8} (h1:(s==[102,114,111,110,116])=false) (h2:decide (s.take 6=[102,114,111,110,116,32])=false) (h3:(s==[98,97,99,107])=false) (h4:decide (s.take 5=[98,97,99,107,32])=false):rowR atoiO s=none:=by
 rw [rowR,if_neg (by rintro (h9 | h9);exact absurd h9 (by simpa [sideB] using h1);exact absurd h9 (of_decide_eq_false h2)),if_neg (by rintro (h9 | h9);exact absurd h9 (by simpa [sideB] using h3);exact absurd h9 (of_decide_eq_false h4))]
theorem zgb {s p:List UInt8} {k:Nat} (hp:p.length=k+1) (h:decide (s.take (k+1)=p)=true):(s.drop k≠[])/\k+1<=s.length:=by
 have h1:=congrArg List.length (of_decide_eq_true h)
 rw [Zx,hp] at h1
 refine ⟨fun e=>?_,by omega⟩
 have h2:=congrArg List.length e
 simp at h2
 omega
theorem zmO (s:List UInt8) (hs:s.length<=10000) (w:World):Calls Tryz.prog 82 #[.string ⟨s.toArray⟩] w (RowR s w):=by
 have ar:=Za (show ∀(w':World),Calls Tryz.prog 54 #[.string ⟨s.toArray⟩,.string ⟨#[102,114,111,110,116,32]⟩] w' fun e w''=>e = .returned (.bool (decide (s.take 6=[102,114,111,110,116,32])))/\Ext w' w'' from fun w'=>zcM s [102,114,111,110,116,32] (by decide) w')
 have aq:=Za (show ∀(w':World),Calls Tryz.prog 54 #[.string ⟨s.toArray⟩,.string ⟨#[98,97,99,107,32]⟩] w' fun e w''=>e = .returned (.bool (decide (s.take 5=[98,97,99,107,32])))/\Ext w' w'' from fun w'=>zcM s [98,97,99,107,32] (by decide) w')
 have av:=zkV (s:=s)
 have au:=zmL (s:=s)
 have az:=zmN (s:=s)
 have aB:=fun h=>zgb (s:=s) (p:=[102,114,111,110,116,32]) (k:=5) rfl h
 have aA:=fun h=>zgb (s:=s) (p:=[98,97,99,107,32]) (k:=4) rfl h
 have ax:(s==[102,114,111,110,116])=true->s=[102,114,111,110,116]:=fun h=>by simpa using h
 have aw:(s==[98,97,99,107])=true->s=[98,97,99,107]:=fun h=>by simpa using h
 have aD:=fun n (h:s.length<=n)=>zai s 5 n h
 have aC:=fun n (h:s.length<=n)=>zai s 4 n h
 have aE:=fun (r:List UInt8) (hr:r.length<=10000) (w':World)=>zcd r hr w'
 generalize hbf:(s==[102,114,111,110,116])=bf at *
 generalize hbb:(s==[98,97,99,107])=bb at *
 generalize hdf:decide (s.take 6=[102,114,111,110,116,32])=df at *
 generalize hdb:decide (s.take 5=[98,97,99,107,32])=db at *
 clear hdf hdb
 have ao:=Za (RB.start w)
 cases bf
 case true =>
  have aa:=av (.inl rfl)
  have aM:=ax rfl
  subst aM
  have HV:=Za (show rowR atoiO [102,114,111,110,116]=some ⟨false,[]⟩ from aa)
  have aG:=aD 5 (by decide)
  clear aa av au az aB aA ax aw aE aC
  have HP1:=Za trivial
  have ai:=Za trivial
  have aj:=Za trivial
  go_enter Tryz.func82,Tryz.ntmps82
  go_wp2_with (first
   | (go_at_call 54;first
    | ((with_reducible refine (ar.out _).mono ?_);rintro e w1 ⟨rfl,hq1⟩;have ab:=Za (ao.out.ext (zx:Ext _ w1));obtain ⟨a0,a1,a2,a3,a4,a5,a6⟩:=ab.out.facts)
    | ((with_reducible refine (aq.out _).mono ?_);rintro e w2 ⟨rfl,hq2⟩;have ag:=Za (ab.out.ext (zx:Ext w1 w2));obtain ⟨b0,b1,b2,b3,b4,b5,b6⟩:=ag.out.facts))
   | (go_at_call 117;((with_reducible refine (HP1.out _).mono ?_);skip))
   | (go_at_call 118;((with_reducible refine (ai.out _ _ _ (aj.out.ext zx)).mono ?_);rintro e w4 ⟨A4,n4,c4,rfl,ay,af,ae,ap⟩;have am:=Za af;have ah:=Za (ac.out.ext (zx:Ext w3 w4));obtain ⟨k0,k1,k2,k3,k4,k5,k6⟩:=ah.out.facts;have al:=Za (show 0<n4->∀b off,A4=some ⟨b,off,none⟩->w.heap.size+2<=b from fun h b off e=>by have h8:=ae h b off e;have h9:=ac.out.lt;have h7:=Zl (show Ext w3 _ from zx);omega);clear af ae)))
  exact bodyPost_ret (v := .tuple #[.agg #[.bool false,.slice none 0 0],.bool true]) (by simp [results,Tryz.f82,go_sem]) rfl (RowR.yes HV.out ao.out.ex (Vec.none_ _ _ _) (fun k hk=>by simp at hk) (by unfold maxLen;omega) (fun h=>absurd h (by omega)) (Zg _))
 case false =>
  cases df
  case true =>
   have aa:=av (.inr rfl)
   obtain ⟨hne,aQ⟩:=aB rfl
   have aG:=aD s.length (Zg _)
   have p5:(5:Int)<=(s.length:Int):=by omega
   clear av au az aB aA ax aw aE aC aD
   obtain ⟨R,hR⟩:∃R,s.drop 5=R:=⟨_,rfl⟩
   obtain ⟨R1,hR1⟩:∃R1,R.drop 1=R1:=⟨_,rfl⟩
   have aN:=zai R 1 R.length (Zg _)
   rw [hR] at hne aa aG
   rw [hR1] at aa aN
   rw [if_neg hne] at aa
   have aO:R.length+5=s.length:=by rw [<-hR,Zu];omega
   have ak:R1.length<=10000:=by rw [<-hR1,Zu];omega
   have p1:((R.length:Int)==0)=false:=by rw [Ze];have:=ZM.2 hne;omega
   have p2:(1:Int)<=(R.length:Int):=by have:=ZM.2 hne;omega
   have an:=Za (fun (w':World)=>zcd R1 ak w')
   clear hR hR1 hne ak
   cases hp:parseT atoiO R1 with
   | none =>
    rw [hp] at aa
    have HV:=Za aa
    have HP1:=Za (show ∀(w':World),Calls Tryz.prog 117 #[.string ⟨R1.toArray⟩] w' fun e w''=>e = .returned (.tuple #[.slice none 0 0,.int .i64 12])/\Ext w' w'' from fun w'=>by
     refine (an.out w').mono ?_
     rintro e w9 ⟨v,x,rfl,hb,⟨_,rfl,rfl⟩ | ⟨t,h2,_⟩⟩
     ·exact ⟨rfl,hb⟩
     ·rw [hp] at h2;cases h2)
    clear aa hp an
    have ai:=Za trivial
    have aj:=Za trivial
    go_enter Tryz.func82,Tryz.ntmps82
    go_wp2_with (first
     | (go_at_call 54;first
      | ((with_reducible refine (ar.out _).mono ?_);rintro e w1 ⟨rfl,hq1⟩;have ab:=Za (ao.out.ext (zx:Ext _ w1));obtain ⟨a0,a1,a2,a3,a4,a5,a6⟩:=ab.out.facts)
      | ((with_reducible refine (aq.out _).mono ?_);rintro e w2 ⟨rfl,hq2⟩;have ag:=Za (ab.out.ext (zx:Ext w1 w2));obtain ⟨b0,b1,b2,b3,b4,b5,b6⟩:=ag.out.facts))
     | (go_at_call 117;((with_reducible refine (HP1.out _).mono ?_);rintro e w3 ⟨rfl,aL⟩;have ac:=Za (ab.out.ext (zx:Ext _ w3));obtain ⟨d0,d1,d2,d3,d4,d5,d6⟩:=ac.out.facts))
     | (go_at_call 118;((with_reducible refine (ai.out _ _ _ (aj.out.ext zx)).mono ?_);rintro e w4 ⟨A4,n4,c4,rfl,ay,af,ae,ap⟩;have am:=Za af;have ah:=Za (ac.out.ext (zx:Ext w3 w4));obtain ⟨k0,k1,k2,k3,k4,k5,k6⟩:=ah.out.facts;have al:=Za (show 0<n4->∀b off,A4=some ⟨b,off,none⟩->w.heap.size+2<=b from fun h b off e=>by have h8:=ae h b off e;have h9:=ac.out.lt;have h7:=Zl (show Ext w3 _ from zx);omega);clear af ae)))
    have ad:=Za ac.out
    obtain ⟨y0,y1⟩:=zbp (v0 := .bool false) (v1 := .slice none 0 0) ad.out.r0 ad.out.r1
    exact bodyPost_ret (v := .tuple #[.agg #[.bool false,.slice none 0 0],.bool false]) (by simp [results,Tryz.f82,go_sem,y0,y1]) rfl (RowR.no HV.out ad.out.fin)
   | some t =>
    rw [hp] at aa
    have HV:=Za (show rowR atoiO s=some ⟨false,t.cells⟩ from aa)
    obtain ⟨g1,g2,g3⟩:=(za6 zhh).1 hp
    obtain ⟨g4,g5,g6,g8⟩:=zid g2
    have g7:=zap t
    have aH:=Za (show Bytes t.cells from zcf (ze2 g6))
    have aI:=Za g8
    have HP1:=Za (show ∀(w':World),Calls Tryz.prog 117 #[.string ⟨R1.toArray⟩] w' fun e w''=>∃(A1:Option Addr) (c1:Nat),e = .returned (.tuple #[.slice A1 t.cnt c1,.int .i64 0])/\Ext w' w''/\Tv w'' A1 t.cnt t from fun w'=>by
     refine (an.out w').mono ?_
     rintro e w9 ⟨v,x,rfl,hb,⟨h2,_,_⟩ | ⟨t2,h2,rfl,ho⟩⟩
     ·rw [hp] at h2;cases h2
     ·rw [hp] at h2
      cases h2
      obtain ⟨A1,c1,rfl,hv⟩:=zaA ho (by omega)
      exact ⟨A1,c1,rfl,hb,hv.tv⟩)
    have ai:=Za (fun (A1:Option Addr) (c1:Nat) (w':World) (h:Tv w' A1 t.cnt t)=>zfk 5000 (Zg _) t (by omega) g6 g8 A1 t.cnt c1 w' h)
    clear aa hp an g1 g2 g3 g4 g5 g6 g7 g8
    go_enter Tryz.func82,Tryz.ntmps82
    go_wp2_with (first
     | (go_at_call 54;first
      | ((with_reducible refine (ar.out _).mono ?_);rintro e w1 ⟨rfl,hq1⟩;have ab:=Za (ao.out.ext (zx:Ext _ w1));obtain ⟨a0,a1,a2,a3,a4,a5,a6⟩:=ab.out.facts)
      | ((with_reducible refine (aq.out _).mono ?_);rintro e w2 ⟨rfl,hq2⟩;have ag:=Za (ab.out.ext (zx:Ext w1 w2));obtain ⟨b0,b1,b2,b3,b4,b5,b6⟩:=ag.out.facts))
     | (go_at_call 117;((with_reducible refine (HP1.out _).mono ?_);rintro e w3 ⟨A3,c3,rfl,aL,aF⟩;have aj:=Za aF;clear aF;have ac:=Za (ab.out.ext (zx:Ext _ w3));obtain ⟨d0,d1,d2,d3,d4,d5,d6⟩:=ac.out.facts))
     | (go_at_call 118;((with_reducible refine (ai.out _ _ _ (aj.out.ext zx)).mono ?_);rintro e w4 ⟨A4,n4,c4,rfl,ay,af,ae,ap⟩;have am:=Za af;have ah:=Za (ac.out.ext (zx:Ext w3 w4));obtain ⟨k0,k1,k2,k3,k4,k5,k6⟩:=ah.out.facts;have al:=Za (show 0<n4->∀b off,A4=some ⟨b,off,none⟩->w.heap.size+2<=b from fun h b off e=>by have h8:=ae h b off e;have h9:=ac.out.lt;have h7:=Zl (show Ext w3 _ from zx);omega);clear af ae)))
    have ad:=Za (ah.out.cells (.slice A4 n4 c4))
    obtain ⟨y0,y1⟩:=zbp (v0 := .bool false) (v1 := .slice A4 n4 c4) ad.out.r0 ad.out.r1
    have aJ:=Za (show n4<=maxLen by rw [<-am.out.1];unfold maxLen;have:=aI.out;omega)
    have aK:=Za (show Vec shSt (((w4.setCell ⟨w.heap.size+1,1,none⟩ (.slice A4 n4 c4)).setCell ⟨w.heap.size,0,none⟩ (.bool false)).setCell ⟨w.heap.size,1,none⟩ (.slice A4 n4 c4)) A4 n4 t.cells from am.out.keepK (K:=fun b=>w.heap.size+2<=b) al.out (by simp [World.setCell]) fun b _ hk o=>by
     have aP:w.heap.size+2<=b:=hk
     rw [Zj _ _ _ _ (by intro e;simp at e <;> omega),Zj _ _ _ _ (by intro e;simp at e <;> omega),Zj _ _ _ _ (by intro e;simp at e <;> omega)])
    exact bodyPost_ret (v := .tuple #[.agg #[.bool false,.slice A4 n4 c4],.bool true]) (by simp [results,Tryz.f82,go_sem,y0,y1]) rfl (RowR.yes HV.out ad.out.fin aK.out aH.out aJ.out (fun h b off e=>by have:=al.out h b off e;omega) ap)
  case false =>
   cases bb
   case true =>
    have aa:=au rfl rfl (.inl rfl)
    have aM:=aw rfl
    subst aM
    have HV:=Za (show rowR atoiO [98,97,99,107]=some ⟨true,[]⟩ from aa)
    have aG:=aC 4 (by decide)
    clear aa av au az aB aA ax aw aE aD
    have HP1:=Za trivial
    have ai:=Za trivial
    have aj:=Za trivial
    go_enter Tryz.func82,Tryz.ntmps82
    go_wp2_with (first
     | (go_at_call 54;first
      | ((with_reducible refine (ar.out _).mono ?_);rintro e w1 ⟨rfl,hq1⟩;have ab:=Za (ao.out.ext (zx:Ext _ w1));obtain ⟨a0,a1,a2,a3,a4,a5,a6⟩:=ab.out.facts)
      | ((with_reducible refine (aq.out _).mono ?_);rintro e w2 ⟨rfl,hq2⟩;have ag:=Za (ab.out.ext (zx:Ext w1 w2));obtain ⟨b0,b1,b2,b3,b4,b5,b6⟩:=ag.out.facts))
     | (go_at_call 117;((with_reducible refine (HP1.out _).mono ?_);skip))
     | (go_at_call 118;((with_reducible refine (ai.out _ _ _ (aj.out.ext zx)).mono ?_);rintro e w4 ⟨A4,n4,c4,rfl,ay,af,ae,ap⟩;have am:=Za af;have ah:=Za (ac.out.ext (zx:Ext w3 w4));obtain ⟨k0,k1,k2,k3,k4,k5,k6⟩:=ah.out.facts;have al:=Za (show 0<n4->∀b off,A4=some ⟨b,off,none⟩->w.heap.size+2<=b from fun h b off e=>by have h8:=ae h b off e;have h9:=ac.out.lt;have h7:=Zl (show Ext w3 _ from zx);omega);clear af ae)))
    have ad:=Za (ab.out.back true)
    obtain ⟨y0,y1⟩:=zbp (v0 := .bool true) (v1 := .slice none 0 0) ad.out.r0 ad.out.r1
    exact bodyPost_ret (v := .tuple #[.agg #[.bool true,.slice none 0 0],.bool true]) (by simp [results,Tryz.f82,go_sem,y0,y1]) rfl (RowR.yes HV.out ad.out.fin (Vec.none_ _ _ _) (fun k hk=>by simp at hk) (by unfold maxLen;omega) (fun h=>absurd h (by omega)) (Zg _))
   case false =>
    cases db
    case true =>
     have aa:=au rfl rfl (.inr rfl)
     obtain ⟨hne,aQ⟩:=aA rfl
     have aG:=aC s.length (Zg _)
     have p5:(4:Int)<=(s.length:Int):=by omega
     clear av au az aB aA ax aw aE aC aD
     obtain ⟨R,hR⟩:∃R,s.drop 4=R:=⟨_,rfl⟩
     obtain ⟨R1,hR1⟩:∃R1,R.drop 1=R1:=⟨_,rfl⟩
     have aN:=zai R 1 R.length (Zg _)
     rw [hR] at hne aa aG
     rw [hR1] at aa aN
     rw [if_neg hne] at aa
     have aO:R.length+4=s.length:=by rw [<-hR,Zu];omega
     have ak:R1.length<=10000:=by rw [<-hR1,Zu];omega
     have p1:((R.length:Int)==0)=false:=by rw [Ze];have:=ZM.2 hne;omega
     have p2:(1:Int)<=(R.length:Int):=by have:=ZM.2 hne;omega
     have an:=Za (fun (w':World)=>zcd R1 ak w')
     clear hR hR1 hne ak
     cases hp:parseT atoiO R1 with
     | none =>
      rw [hp] at aa
      have HV:=Za aa
      have HP1:=Za (show ∀(w':World),Calls Tryz.prog 117 #[.string ⟨R1.toArray⟩] w' fun e w''=>e = .returned (.tuple #[.slice none 0 0,.int .i64 12])/\Ext w' w'' from fun w'=>by
       refine (an.out w').mono ?_
       rintro e w9 ⟨v,x,rfl,hb,⟨_,rfl,rfl⟩ | ⟨t,h2,_⟩⟩
       ·exact ⟨rfl,hb⟩
       ·rw [hp] at h2;cases h2)
      clear aa hp an
      have ai:=Za trivial
      have aj:=Za trivial
      go_enter Tryz.func82,Tryz.ntmps82
      go_wp2_with (first
       | (go_at_call 54;first
        | ((with_reducible refine (ar.out _).mono ?_);rintro e w1 ⟨rfl,hq1⟩;have ab:=Za (ao.out.ext (zx:Ext _ w1));obtain ⟨a0,a1,a2,a3,a4,a5,a6⟩:=ab.out.facts)
        | ((with_reducible refine (aq.out _).mono ?_);rintro e w2 ⟨rfl,hq2⟩;have ag:=Za (ab.out.ext (zx:Ext w1 w2));obtain ⟨b0,b1,b2,b3,b4,b5,b6⟩:=ag.out.facts))
       | (go_at_call 117;((with_reducible refine (HP1.out _).mono ?_);rintro e w3 ⟨rfl,aL⟩;have ac:=Za ((Za (ag.out.back true)).out.ext (zx:Ext _ w3));obtain ⟨d0,d1,d2,d3,d4,d5,d6⟩:=ac.out.facts))
       | (go_at_call 118;((with_reducible refine (ai.out _ _ _ (aj.out.ext zx)).mono ?_);rintro e w4 ⟨A4,n4,c4,rfl,ay,af,ae,ap⟩;have am:=Za af;have ah:=Za (ac.out.ext (zx:Ext w3 w4));obtain ⟨k0,k1,k2,k3,k4,k5,k6⟩:=ah.out.facts;have al:=Za (show 0<n4->∀b off,A4=some ⟨b,off,none⟩->w.heap.size+2<=b from fun h b off e=>by have h8:=ae h b off e;have h9:=ac.out.lt;have h7:=Zl (show Ext w3 _ from zx);omega);clear af ae)))
      have ad:=Za ac.out
      obtain ⟨y0,y1⟩:=zbp (v0 := .bool true) (v1 := .slice none 0 0) ad.out.r0 ad.out.r1
      exact bodyPost_ret (v := .tuple #[.agg #[.bool true,.slice none 0 0],.bool false]) (by simp [results,Tryz.f82,go_sem,y0,y1]) rfl (RowR.no HV.out ad.out.fin)
     | some t =>
      rw [hp] at aa
      have HV:=Za (show rowR atoiO s=some ⟨true,t.cells⟩ from aa)
      obtain ⟨g1,g2,g3⟩:=(za6 zhh).1 hp
      obtain ⟨g4,g5,g6,g8⟩:=zid g2
      have g7:=zap t
      have aH:=Za (show Bytes t.cells from zcf (ze2 g6))
      have aI:=Za g8
      have HP1:=Za (show ∀(w':World),Calls Tryz.prog 117 #[.string ⟨R1.toArray⟩] w' fun e w''=>∃(A1:Option Addr) (c1:Nat),e = .returned (.tuple #[.slice A1 t.cnt c1,.int .i64 0])/\Ext w' w''/\Tv w'' A1 t.cnt t from fun w'=>by
       refine (an.out w').mono ?_
       rintro e w9 ⟨v,x,rfl,hb,⟨h2,_,_⟩ | ⟨t2,h2,rfl,ho⟩⟩
       ·rw [hp] at h2;cases h2
       ·rw [hp] at h2
        cases h2
        obtain ⟨A1,c1,rfl,hv⟩:=zaA ho (by omega)
        exact ⟨A1,c1,rfl,hb,hv.tv⟩)
      have ai:=Za (fun (A1:Option Addr) (c1:Nat) (w':World) (h:Tv w' A1 t.cnt t)=>zfk 5000 (Zg _) t (by omega) g6 g8 A1 t.cnt c1 w' h)
      clear aa hp an g1 g2 g3 g4 g5 g6 g7 g8
      go_enter Tryz.func82,Tryz.ntmps82
      go_wp2_with (first
       | (go_at_call 54;first
        | ((with_reducible refine (ar.out _).mono ?_);rintro e w1 ⟨rfl,hq1⟩;have ab:=Za (ao.out.ext (zx:Ext _ w1));obtain ⟨a0,a1,a2,a3,a4,a5,a6⟩:=ab.out.facts)
        | ((with_reducible refine (aq.out _).mono ?_);rintro e w2 ⟨rfl,hq2⟩;have ag:=Za (ab.out.ext (zx:Ext w1 w2));obtain ⟨b0,b1,b2,b3,b4,b5,b6⟩:=ag.out.facts))
       | (go_at_call 117;((with_reducible refine (HP1.out _).mono ?_);rintro e w3 ⟨A3,c3,rfl,aL,aF⟩;have aj:=Za aF;clear aF;have ac:=Za ((Za (ag.out.back true)).out.ext (zx:Ext _ w3));obtain ⟨d0,d1,d2,d3,d4,d5,d6⟩:=ac.out.facts))
       | (go_at_call 118;((with_reducible refine (ai.out _ _ _ (aj.out.ext zx)).mono ?_);rintro e w4 ⟨A4,n4,c4,rfl,ay,af,ae,ap⟩;have am:=Za af;have ah:=Za (ac.out.ext (zx:Ext w3 w4));obtain ⟨k0,k1,k2,k3,k4,k5,k6⟩:=ah.out.facts;have al:=Za (show 0<n4->∀b off,A4=some ⟨b,off,none⟩->w.heap.size+2<=b from fun h b off e=>by have h8:=ae h b off e;have h9:=ac.out.lt;have h7:=Zl (show Ext w3 _ from zx);omega);clear af ae)))
      have ad:=Za (ah.out.cells (.slice A4 n4 c4))
      obtain ⟨y0,y1⟩:=zbp (v0 := .bool true) (v1 := .slice A4 n4 c4) ad.out.r0 ad.out.r1
      have aJ:=Za (show n4<=maxLen by rw [<-am.out.1];unfold maxLen;have:=aI.out;omega)
      have aK:=Za (show Vec shSt (((w4.setCell ⟨w.heap.size+1,1,none⟩ (.slice A4 n4 c4)).setCell ⟨w.heap.size,0,none⟩ (.bool true)).setCell ⟨w.heap.size,1,none⟩ (.slice A4 n4 c4)) A4 n4 t.cells from am.out.keepK (K:=fun b=>w.heap.size+2<=b) al.out (by simp [World.setCell]) fun b _ hk o=>by
       have aP:w.heap.size+2<=b:=hk
       rw [Zj _ _ _ _ (by intro e;simp at e <;> omega),Zj _ _ _ _ (by intro e;simp at e <;> omega),Zj _ _ _ _ (by intro e;simp at e <;> omega)])
      exact bodyPost_ret (v := .tuple #[.agg #[.bool true,.slice A4 n4 c4],.bool true]) (by simp [results,Tryz.f82,go_sem,y0,y1]) rfl (RowR.yes HV.out ad.out.fin aK.out aH.out aJ.out (fun h b off e=>by have:=al.out h b off e;omega) ap)
    case false =>
     have HV:=Za (az rfl rfl rfl rfl)
     clear av au az aB aA ax aw aE aC aD
     have HP1:=Za trivial
     have ai:=Za trivial
     have aj:=Za trivial
     go_enter Tryz.func82,Tryz.ntmps82
     go_wp2_with (first
      | (go_at_call 54;first
       | ((with_reducible refine (ar.out _).mono ?_);rintro e w1 ⟨rfl,hq1⟩;have ab:=Za (ao.out.ext (zx:Ext _ w1));obtain ⟨a0,a1,a2,a3,a4,a5,a6⟩:=ab.out.facts)
       | ((with_reducible refine (aq.out _).mono ?_);rintro e w2 ⟨rfl,hq2⟩;have ag:=Za (ab.out.ext (zx:Ext w1 w2));obtain ⟨b0,b1,b2,b3,b4,b5,b6⟩:=ag.out.facts))
      | (go_at_call 117;((with_reducible refine (HP1.out _).mono ?_);skip))
      | (go_at_call 118;((with_reducible refine (ai.out _ _ _ (aj.out.ext zx)).mono ?_);rintro e w4 ⟨A4,n4,c4,rfl,ay,af,ae,ap⟩;have am:=Za af;have ah:=Za (ac.out.ext (zx:Ext w3 w4));obtain ⟨k0,k1,k2,k3,k4,k5,k6⟩:=ah.out.facts;have al:=Za (show 0<n4->∀b off,A4=some ⟨b,off,none⟩->w.heap.size+2<=b from fun h b off e=>by have h8:=ae h b off e;have h9:=ac.out.lt;have h7:=Zl (show Ext w3 _ from zx);omega);clear af ae)))
     have ad:=Za ag.out
     obtain ⟨y0,y1⟩:=zbp (v0 := .bool false) (v1 := .slice none 0 0) ad.out.r0 ad.out.r1
     exact bodyPost_ret (v := .tuple #[.agg #[.bool false,.slice none 0 0],.bool false]) (by simp [results,Tryz.f82,go_sem,y0,y1]) rfl (RowR.no HV.out ad.out.fin)
end Go.Proofs.YtkneghkbgingdaaGreatDoor
/- Words of a string,plain: how many,and how long. -/
namespace Go.Proofs.YtkneghkbgingdaaGreatDoor
set_option maxRecDepth 100000
theorem zlc (c:UInt8):∀s:List UInt8,(spl c s).length<=s.length+1/\∀w∈spl c s,w.length<=s.length:=by
 intro s
 induction s with
 | nil=>exact ⟨by simp [spl],fun w hw=>by simp [spl] at hw;subst hw;simp⟩
 | cons x l ih =>
  rw [spl]
  split
  ·refine ⟨by simp;omega,fun w hw=>?_⟩
   rcases ZI.1 hw with rfl | hw
   ·simp
   ·have:=ih.2 w hw
    simp only [Zk]
    omega
  ·split
   ·rename_i h t e
    rw [e] at ih
    refine ⟨by have:=ih.1;simp only [Zk] at this ⊢;omega,fun w hw=>?_⟩
    rcases ZI.1 hw with rfl | hw
    ·have:=ih.2 h (by simp)
     simp only [Zk]
     omega
    ·have:=ih.2 w (by simp [hw])
     simp only [Zk]
     omega
   ·exact ⟨by simp,fun w hw=>by simp at hw;subst hw;simp⟩
theorem zbT (c:UInt8) (s:List UInt8):(spl c s).length<=s.length+1:=(zlc c s).1
theorem zal (c:UInt8) (s:List UInt8) (k:Nat):((spl c s).getD k []).length<=s.length:=by
 by_cases h:k<(spl c s).length
 ·rw [Zc,Zd h]
  exact (zlc c s).2 _ (List.getElem_mem h)
 ·rw [Zc,List.getElem?_eq_none (by omega)]
  simp
end Go.Proofs.YtkneghkbgingdaaGreatDoor
