/- Parse of terms. -/
import Derived.Test.YtkneghkbgingdaaGreatDoorT15
set_option maxHeartbeats 16000000
namespace Go.Proofs.YtkneghkbgingdaaGreatDoor
set_option maxRecDepth 100000
open Go.RowKit Go.ChangeShapes Go.WideShapes Go.Joins
theorem zlr {s:List UInt8} (h:(untilS s).1≠[]):(untilS s).2.length+1<=s.length:=by
 have h1:=congrArg List.length (zbt s)
 rw [Zb] at h1
 have h2:=ZM.2 h
 omega
theorem zhV {s:List UInt8} {c:St} (h:parseL s=some [c]):s≠[]:=by
 obtain ⟨_,h1,h2⟩:=zcn.1 h
 have h3:=(za8 h1).2.1
 have h4:okSt c=true:=by simpa [allB] using h3
 rw [<-h2]
 exact (zbj h4).2.2
theorem znt {at_:List UInt8->Option Int} {c:St} {g:Tms} {s:List UInt8} {n:Int} {c':St} {g':Tms} {r:List UInt8} (h:rdN at_ c g s=some ((n,c',g'),r)):g'=g/\r.length<=s.length:=by
 refine ⟨?_,(zgP h).length_le⟩
 unfold rdN at h
 split at h
 ·split at h
  ·cases h
  ·cases h;rfl
 ·cases h;rfl
theorem zoh (at_:List UInt8->Option Int):∀f,(∀d s n c g r,rdT at_ f d s=some ((n,c,g),r)->1+g.size+r.length<=s.length)/\(∀d s t r,rdL at_ f d s=some (t,r)->t.size+r.length<=s.length):=by
 intro f
 induction f with
 | zero=>exact ⟨fun d s n c g r h=>(by rw [rdT] at h;cases h),fun d s t r h=>(by rw [rdL] at h;cases h)⟩
 | succ f ih =>
  refine ⟨fun d s n c g r h=>?_,fun d s t r h=>?_⟩
  ·unfold rdT at h
   split at h
   ·rename_i s1
    split at h
    ·cases h
    ·split at h
     ·rename_i g0 s2 h2
      have h3:=ih.2 _ _ _ _ h2
      obtain ⟨rfl,h4⟩:=znt h
      simp only [Zk] at h3 ⊢
      omega
     ·cases h
   ·split at h
    ·rename_i c0 h2
     obtain ⟨rfl,h4⟩:=znt h
     have h5:=zlr (zhV h2)
     simp only [Tms.size]
     omega
    ·cases h
  ·rw [rdL] at h
   split at h
   ·cases h
   ·rename_i n c g s2 h2
    have h3:=ih.1 _ _ _ _ _ _ h2
    obtain ⟨y,hy,e⟩:=ZH.1 h
    cases e
    have h4:=ih.2 _ _ _ _ hy
    simp only [Zk] at h3
    simp only [Tms.size]
    omega
   ·rename_i n c g s1 hne h2
    cases h
    have h3:=ih.1 _ _ _ _ _ _ h2
    simp only [Tms.size]
    omega
theorem zkM {at_:List UInt8->Option Int} {s:List UInt8} {t:Tms} (h:readT at_ s=some t):t.size<=s.length:=by
 unfold readT at h
 split at h
 ·cases h;simp [Tms.size]
 ·split at h
  ·rename_i t' h2
   cases h
   have:=(zoh at_ _).2 _ _ _ _ h2
   omega
  ·cases h
theorem zd3 {w:World} {B k:Nat} {e:TypeId} {A:Option Addr} {c:Nat} {t:Tms} (h:OwnT w B e (.slice A k c) k t) (hk:k<=1000000):Tv w A k t:=by
 obtain ⟨A',c',e1,h1⟩:=zaA h hk
 cases e1
 exact h1.tv
def PTR (s:List UInt8) (w:World) (e:Ending) (w':World):Prop:=∃(v:Value) (x:Int),e = .returned (.tuple #[v,.int .i64 x])/\Ext w w' /\
 ((parseT atoiO s=none/\v = .slice none 0 0/\x=12)∨∃t,parseT atoiO s=some t/\x=0/\OwnT w' w.heap.size 134 v t.cnt t)
theorem PTR.no {s:List UInt8} {w w':World} (h:parseT atoiO s=none) (hb:Ext w w'):PTR s w (.returned (.tuple #[.slice none 0 0,.int .i64 12])) w':=⟨_,_,rfl,hb,.inl ⟨h,rfl,rfl⟩⟩
theorem PTR.yes {s:List UInt8} {v:Value} {t:Tms} {w w':World} (h:parseT atoiO s=some t) (hb:Ext w w') (ho:OwnT w' w.heap.size 134 v t.cnt t):PTR s w (.returned (.tuple #[v,.int .i64 0])) w':=⟨_,_,rfl,hb,.inr ⟨t,h,rfl,ho⟩⟩
theorem zmm (s:List UInt8) (hl0:s.length<=1000000) (ha:Asc s) (w:World) (hg:Glob w):Calls Tryz.prog 80 #[.string ⟨s.toArray⟩] w (PTR s w):=by
 by_cases h3:3000<s.length
 ·have hN:=Za (show parseT atoiO s=none by rw [parseT,if_pos h3])
  have q1:(3000:Int)<(s.length:Int):=by omega
  clear ha hg
  go_enter Tryz.func80,Tryz.ntmps80
  go_wp2_with fail
  go_ret2
  exact PTR.no hN.out zx
 have q1:¬((3000:Int)<(s.length:Int)):=by omega
 have aa:parseT atoiO s=(readT atoiO s).bind fun t=>if ttextE t=0/\ttextV t=s then some t else none:=by rw [parseT,if_neg h3]
 have HRD:=Za (fun (w':World) (hg':Glob w')=>zol s (by omega) ha w' hg')
 have HG:=Za hg
 clear ha hg
 cases hr:readT atoiO s with
 | none =>
  have hN:=Za (show parseT atoiO s=none by rw [aa,hr];rfl)
  have ac:=Za (fun (w':World) (hg':Glob w')=>(show Calls Tryz.prog 115 #[.string ⟨s.toArray⟩] w' (fun e w''=>∃v,e = .returned (.tuple #[v,.bool false])/\Ext w' w'') from by
   refine (HRD.out w' hg').mono ?_
   rintro e w1 ⟨v,b,rfl,hq1,hy,hn⟩
   cases b
   ·exact ⟨v,rfl,hq1⟩
   ·obtain ⟨t,h9, -⟩:=hy rfl
    rw [hr] at h9
    cases h9))
  clear aa hr HRD
  go_enter Tryz.func80,Tryz.ntmps80
  go_wp2_with (first
   | (go_at_call 115;((with_reducible refine (ac.out _ (HG.out.ext zx)).mono ?_);rintro e w1 ⟨v,rfl,hq1⟩)))
  go_ret2
  exact PTR.no hN.out zx
 | some t =>
  have HR:=Za hr
  have hts:=zkM hr
  have htc:=zap t
  rw [hr,Zz] at aa
  have ae:=Za (fun (A:Option Addr) (n cap:Nat) (w':World) (hv:Tv w' A n t) (hg':Glob w')=>zgh t (by omega) A n cap w' hv hg')
  obtain ⟨X,hX⟩:∃X,ttextE t=X:=⟨_,rfl⟩
  obtain ⟨T,hT⟩:∃T,ttextV t=T:=⟨_,rfl⟩
  rw [hX,hT] at aa
  have HX:=Za hX
  have ad:=Za hT
  have ab:=Za (fun (w':World) (hg':Glob w')=>(show Calls Tryz.prog 115 #[.string ⟨s.toArray⟩] w' (fun e w''=>∃A c,e = .returned (.tuple #[.slice A t.cnt c,.bool true])/\Ext w' w''/\OwnT w'' w'.heap.size 134 (.slice A t.cnt c) t.cnt t) from by
   refine (HRD.out w' hg').mono ?_
   rintro e w1 ⟨v,b,rfl,hq1,hy,hn⟩
   cases b
   ·have:=hn rfl
    rw [HR.out] at this
    cases this
   ·obtain ⟨t',h9,ho⟩:=hy rfl
    rw [HR.out] at h9
    cases h9
    obtain ⟨A,c,rfl, -⟩:=zaA ho (by omega)
    exact ⟨A,c,rfl,hq1,ho⟩))
  clear hr hX hT HRD
  by_cases h0:X=0
  ·subst h0
   by_cases h1:T=s
   ·subst h1
    have hN:=Za (show parseT atoiO T=some t by rw [aa];simp)
    clear aa
    go_enter Tryz.func80,Tryz.ntmps80
    go_wp2_with (first
     | (go_at_call 115;((with_reducible refine (ab.out _ (HG.out.ext zx)).mono ?_);rintro e w1 ⟨A,c,rfl,hq1,ho⟩;have HO:=Za ho;have HV:=Za ((zd3 ho (by omega)));clear ho))
     | (go_at_call 71;((with_reducible refine (ae.out _ _ _ _ (HV.out.ext zx) (HG.out.ext zx)).mono ?_);rintro e w2 ⟨rfl,hq2⟩;rw [HX.out,ad.out])))
    go_ret2
    exact PTR.yes hN.out zx ((HO.out.low (Zg _)).ext zx)
   ·have hN:=Za (show parseT atoiO s=none by rw [aa];simp [h1])
    have hne:(T==s)=false:=by simpa using h1
    have hne2:(T != s)=true:=by simpa using h1
    clear aa h1
    go_enter Tryz.func80,Tryz.ntmps80
    go_wp2_with (first
     | (go_at_call 115;((with_reducible refine (ab.out _ (HG.out.ext zx)).mono ?_);rintro e w1 ⟨A,c,rfl,hq1,ho⟩;have HO:=Za ho;have HV:=Za ((zd3 ho (by omega)));clear ho))
     | (go_at_call 71;((with_reducible refine (ae.out _ _ _ _ (HV.out.ext zx) (HG.out.ext zx)).mono ?_);rintro e w2 ⟨rfl,hq2⟩;rw [HX.out,ad.out])))
    go_ret2
    exact PTR.no hN.out zx
  ·have hN:=Za (show parseT atoiO s=none by rw [aa];simp [h0])
   have hne:(X != 0)=true:=by simpa using h0
   clear aa h0
   go_enter Tryz.func80,Tryz.ntmps80
   go_wp2_with (first
    | (go_at_call 115;((with_reducible refine (ab.out _ (HG.out.ext zx)).mono ?_);rintro e w1 ⟨A,c,rfl,hq1,ho⟩;have HO:=Za ho;have HV:=Za ((zd3 ho (by omega)));clear ho))
    | (go_at_call 71;((with_reducible refine (ae.out _ _ _ _ (HV.out.ext zx) (HG.out.ext zx)).mono ?_);rintro e w2 ⟨rfl,hq2⟩;rw [HX.out,ad.out])))
   go_ret2
   exact PTR.no hN.out zx
end Go.Proofs.YtkneghkbgingdaaGreatDoor
/- A line put behind rows (the program's add). -/
namespace Go.Proofs.YtkneghkbgingdaaGreatDoor
set_option maxRecDepth 100000
open Go.RowKit Go.ChangeShapes Go.WideShapes Go.Joins
def AddR (W:World) (acc:List Ro) (s:List UInt8) (e:Ending) (w':World):Prop:=∃(V:Value) (ok:Bool),e = .returned (.tuple #[V,.bool ok])/\Ext W w' /\
 ((addP atoiO acc s=none/\ok=false/\∃(A:Option Addr) (n c:Nat),V = .slice A n c)∨∃l,addP atoiO acc s=some l/\ok=true/\OwnQ w' W.heap.size 75 V l.length l)
theorem AddR.no {W w':World} {acc:List Ro} {s:List UInt8} {A:Option Addr} {n c:Nat} (h:addP atoiO acc s=none) (hb:Ext W w'):AddR W acc s (.returned (.tuple #[.slice A n c,.bool false])) w':=⟨_,_,rfl,hb,.inl ⟨h,rfl,A,n,c,rfl⟩⟩
theorem AddR.nob {W w':World} {acc:List Ro} {s:List UInt8} {A:Option Addr} {n c:Nat} {ok:Bool} (hk:ok=false) (h:addP atoiO acc s=none) (hb:Ext W w'):AddR W acc s (.returned (.tuple #[.slice A n c,.bool ok])) w':=⟨_,_,rfl,hb,.inl ⟨h,hk,A,n,c,rfl⟩⟩
theorem AddR.yes {W w':World} {acc l:List Ro} {s:List UInt8} {V:Value} {k:Nat} (h:addP atoiO acc s=some l) (hk:l.length=k) (hb:Ext W w') (ho:OwnQ w' W.heap.size 75 V k l):AddR W acc s (.returned (.tuple #[V,.bool true])) w':=by
 subst hk
 exact ⟨_,_,rfl,hb,.inr ⟨l,h,rfl,ho⟩⟩
theorem znB {acc:List Ro} {s:List UInt8} {k m:Int} (h:s.take 6=agnB) (hk:numP atoiO (cutA 32 (s.drop 6)).1=k) (hm:numP atoiO (cutA 32 (s.drop 6)).2=m) (hc:k<1∨2<k∨(acc.length:Int)<k∨m<1∨100<m):addP atoiO acc s=none:=by
 subst hk
 subst hm
 rw [addP,if_pos h]
 exact if_pos hc
theorem znD {acc:List Ro} {s:List UInt8} {k m:Nat} (h:s.take 6=agnB) (hk:numP atoiO (cutA 32 (s.drop 6)).1=(k:Int)) (hm:numP atoiO (cutA 32 (s.drop 6)).2=(m:Int)) (hc:¬((k:Int)<1∨2<(k:Int)∨(acc.length:Int)<(k:Int)∨(m:Int)<1∨100<(m:Int))) :
  addP atoiO acc s=if acc.length+k*m<=100 then some (copies k (k*m) acc) else none:=by
 rw [addP,if_pos h]
 simp only
 rw [hk,hm,if_neg hc]
 have e:(k:Int)*(m:Int)=((k*m:Nat):Int):=by rw [Int.natCast_mul]
 rw [e,Int.toNat_natCast,Int.toNat_natCast]
 by_cases h2:acc.length+k*m<=100
 ·rw [if_pos h2,if_pos (by omega)]
 ·rw [if_neg h2,if_neg (by omega)]
theorem zly {acc:List Ro} {s sd:List UInt8} (h:¬s.take 6=agnB) (hs:(cutA 32 s).1=sd) (h1:(sd==[102,114,111,110,116])=false) (h2:(sd==[98,97,99,107])=false):addP atoiO acc s=none:=by
 rw [addP,if_neg h,hs]
 exact if_pos ⟨by simpa [sideB] using h1,by simpa [sideB] using h2⟩
theorem znC {acc:List Ro} {s sd r:List UInt8} {bk:Bool} (h:¬s.take 6=agnB) (hs:(cutA 32 s).1=sd) (hr:(cutA 32 s).2=r) (h1:(sd==[102,114,111,110,116])=true∨bk=true) (h2:(sd==[98,97,99,107])=bk) :
  addP atoiO acc s=match parseT atoiO r with
  | none=>none
  | some t=>if acc.length<100 then some (acc++[⟨bk,t.cells⟩]) else none:=by
 rw [addP,if_neg h,hs,hr]
 have e:decide (sd=sideB true)=bk:=by rw [<-h2];by_cases h9:sd=[98,97,99,107] <;> simp [h9,sideB]
 rw [e]
 refine if_neg ?_
 rintro ⟨g1,g2⟩
 rcases h1 with h1 | h1
 ·exact g1 (by simpa [sideB] using h1)
 ·rw [h1] at h2
  exact g2 (by simpa [sideB] using h2)
theorem zmF {n:Nat} {g:List St} (h:allB g=true):allB (rep n g)=true:=by
 induction n with
 | zero=>rfl
 | succ n ih =>
  rw [rep]
  unfold allB at *
  rw [List.all_append,h,ih]
  rfl
theorem ze2:∀ {t:Tms},fineT t=true->allB t.cells=true:=by
 intro t
 induction t with
 | nil=>intro _;rfl
 | cons N c g r ih1 ih2 =>
  intro h
  obtain ⟨hn,hg,hr,hc, -⟩:=zaM h
  have a1:=ih1 hg
  have b1:=ih2 hr
  rw [zdo]
  have h9:allB (rep N.toNat (ownC c g))=true:=by
   apply zmF
   by_cases h0:g = .nil
   ·subst h0
    rw [zeJ]
    simp [allB,hc rfl]
   ·rw [zdE c (by cases g with | nil=>exact absurd rfl h0 | cons=>simp [Tms.cnt])]
    exact a1
  unfold allB at *
  rw [List.all_append,h9,b1]
  rfl
theorem ziG (W w:World) (A:Option Addr) (n c:Nat) (acc:List Ro) (s:List UInt8) (hx:Ext W w) (ho:OwnQ w W.heap.size 75 (.slice A n c) n acc) (hn:n<=100) (hs:s.length<=100000) (hg:Glob w) (ha:s.take 6=agnB) :
  Calls Tryz.prog 46 #[.slice A n c,.string ⟨s.toArray⟩] w (AddR W acc s):=by
 have HX:=Za hx
 have HO:=Za ho
 have HG:=Za hg
 have aj:=ho.len
 have aw:=Za aj
 have af:=Za (fun (w':World)=>zdX s w')
 rw [if_pos ha,ZW ha] at af
 obtain ⟨r,hr⟩:∃r,s.drop 6=r:=⟨_,rfl⟩
 have hrl:r.length<=100000:=by rw [<-hr,Zu];omega
 have ag:=Za (fun (w':World) (h:Ext w w')=>zho 32 r (by omega) w' (hg.ext h))
 obtain ⟨aD,aE⟩:=zhp 32 r
 have ad:=fun (k m:Int)=>znB (acc:=acc) (s:=s) (k:=k) (m:=m) ha
 have ab:=fun (k m:Nat)=>znD (acc:=acc) (s:=s) (k:=k) (m:=m) ha
 rw [hr] at af ad ab
 obtain ⟨a,ao⟩:∃a,(cutA 32 r).1=a:=⟨_,rfl⟩
 obtain ⟨b,ap⟩:∃b,(cutA 32 r).2=b:=⟨_,rfl⟩
 rw [ao,ap] at ag ad ab
 rw [ao] at aD
 rw [ap] at aE
 have ah:=Za (fun (w':World) (h:Ext w w')=>zaB a (by omega) w' (hg.ext h))
 have ai:=Za (fun (w':World) (h:Ext w w')=>zaB b (by omega) w' (hg.ext h))
 obtain ⟨k,hk⟩:∃k,numP atoiO a=k:=⟨_,rfl⟩
 obtain ⟨m,hm⟩:∃m,numP atoiO b=m:=⟨_,rfl⟩
 rw [hk] at ah
 rw [hm] at ai
 have ad:=ad k m hk hm
 rw [aj] at ad
 have aa:=Za ad
 have ac:=Za ab
 have HK:=Za hk
 have HM:=Za hm
 clear hx ho hg hs ha hr ao ap hk hm ad ab aj
 by_cases c1:k<1
 case pos =>
  have HNO:=Za (aa.out (.inl c1))
  clear aa ac
  go_enter Tryz.func46,Tryz.ntmps46
  go_wp2_with (first
   | (go_at_call 78;((with_reducible refine (af.out _).mono ?_);rintro e w9 ⟨rfl,am⟩;subst w9))
   | (go_at_call 45;((with_reducible refine (ag.out _ zx).mono ?_);rintro e w1 ⟨f1,rfl,hq1⟩))
   | (go_at_call 79;first
    | ((with_reducible refine (ah.out _ zx).mono ?_);rintro e w2 ⟨rfl,hq2⟩)
    | (((with_reducible refine (ai.out _ zx).mono ?_);rintro e w3 ⟨rfl,al⟩))))
  go_ret2
  exact AddR.no HNO.out (HX.out.trans zx)
 by_cases c2:2<k
 case pos =>
  have HNO:=Za (aa.out (.inr (.inl c2)))
  clear aa ac
  go_enter Tryz.func46,Tryz.ntmps46
  go_wp2_with (first
   | (go_at_call 78;((with_reducible refine (af.out _).mono ?_);rintro e w9 ⟨rfl,am⟩;subst w9))
   | (go_at_call 45;((with_reducible refine (ag.out _ zx).mono ?_);rintro e w1 ⟨f1,rfl,hq1⟩))
   | (go_at_call 79;first
    | ((with_reducible refine (ah.out _ zx).mono ?_);rintro e w2 ⟨rfl,hq2⟩)
    | (((with_reducible refine (ai.out _ zx).mono ?_);rintro e w3 ⟨rfl,al⟩))))
  go_ret2
  exact AddR.no HNO.out (HX.out.trans zx)
 by_cases c3:(n:Int)<k
 case pos =>
  have HNO:=Za (aa.out (.inr (.inr (.inl c3))))
  clear aa ac
  go_enter Tryz.func46,Tryz.ntmps46
  go_wp2_with (first
   | (go_at_call 78;((with_reducible refine (af.out _).mono ?_);rintro e w9 ⟨rfl,am⟩;subst w9))
   | (go_at_call 45;((with_reducible refine (ag.out _ zx).mono ?_);rintro e w1 ⟨f1,rfl,hq1⟩))
   | (go_at_call 79;first
    | ((with_reducible refine (ah.out _ zx).mono ?_);rintro e w2 ⟨rfl,hq2⟩)
    | (((with_reducible refine (ai.out _ zx).mono ?_);rintro e w3 ⟨rfl,al⟩))))
  go_ret2
  exact AddR.no HNO.out (HX.out.trans zx)
 by_cases c4:m<1
 case pos =>
  have HNO:=Za (aa.out (.inr (.inr (.inr (.inl c4)))))
  clear aa ac
  go_enter Tryz.func46,Tryz.ntmps46
  go_wp2_with (first
   | (go_at_call 78;((with_reducible refine (af.out _).mono ?_);rintro e w9 ⟨rfl,am⟩;subst w9))
   | (go_at_call 45;((with_reducible refine (ag.out _ zx).mono ?_);rintro e w1 ⟨f1,rfl,hq1⟩))
   | (go_at_call 79;first
    | ((with_reducible refine (ah.out _ zx).mono ?_);rintro e w2 ⟨rfl,hq2⟩)
    | (((with_reducible refine (ai.out _ zx).mono ?_);rintro e w3 ⟨rfl,al⟩))))
  go_ret2
  exact AddR.no HNO.out (HX.out.trans zx)
 by_cases c5:100<m
 case pos =>
  have HNO:=Za (aa.out (.inr (.inr (.inr (.inr c5)))))
  clear aa ac
  go_enter Tryz.func46,Tryz.ntmps46
  go_wp2_with (first
   | (go_at_call 78;((with_reducible refine (af.out _).mono ?_);rintro e w9 ⟨rfl,am⟩;subst w9))
   | (go_at_call 45;((with_reducible refine (ag.out _ zx).mono ?_);rintro e w1 ⟨f1,rfl,hq1⟩))
   | (go_at_call 79;first
    | ((with_reducible refine (ah.out _ zx).mono ?_);rintro e w2 ⟨rfl,hq2⟩)
    | (((with_reducible refine (ai.out _ zx).mono ?_);rintro e w3 ⟨rfl,al⟩))))
  go_ret2
  exact AddR.no HNO.out (HX.out.trans zx)
 obtain ⟨k,rfl⟩:∃j:Nat,k=(j:Int):=⟨k.toNat,by omega⟩
 obtain ⟨m,rfl⟩:∃j:Nat,m=(j:Int):=⟨m.toNat,by omega⟩
 have ab:=ac.out k m HK.out HM.out (by rw [aw.out];omega)
 rw [aw.out] at ab
 have aF:k*m<=200:=Nat.mul_le_mul (show k<=2 by omega) (show m<=100 by omega)
 obtain ⟨N,hN⟩:∃N,k*m=N:=⟨_,rfl⟩
 rw [hN] at aF ab
 have eN:(k:Int)*(m:Int)=(N:Int):=by rw [<-hN,Int.natCast_mul]
 have ax:=Za ab
 have av:=Za (show 1<=k/\k<=n by omega)
 clear ab hN aa ac HK HM
 go_enter Tryz.func46,Tryz.ntmps46
 go_wp2_with (first
  | (go_at_call 78;((with_reducible refine (af.out _).mono ?_);rintro e w9 ⟨rfl,am⟩;subst w9))
  | (go_at_call 45;((with_reducible refine (ag.out _ zx).mono ?_);rintro e w1 ⟨f1,rfl,hq1⟩))
  | (go_at_call 79;first
   | ((with_reducible refine (ah.out _ zx).mono ?_);rintro e w2 ⟨rfl,hq2⟩)
   | (((with_reducible refine (ai.out _ zx).mono ?_);rintro e w3 ⟨rfl,al⟩))))
 have au:=Za (show Ext w w3 from zx)
 have b1:decide ((k:Int)<1)=false:=ZF (by omega)
 have b2:decide ((2:Int)<(k:Int))=false:=ZF (by omega)
 have b3:decide (n<k)=false:=ZF (by omega)
 have b4:decide ((m:Int)<1)=false:=ZF (by omega)
 have b5:decide ((100:Int)<(m:Int))=false:=ZF (by omega)
 simp only [b1,b2,b3,b4,b5,Bool.or_false]
 clear b1 b2 b3 b4 b5
 go_loopw [0,58] (fun u i wr=>∃(j p q:Nat) (A':Option Addr) (acc':List Ro),u = .slice A' p q/\i = .int .i64 (j:Int)/\j<=N/\Hid (p=n+j)/\Hid (OwnQ wr W.heap.size 75 (.slice A' p q) p acc'/\Ext W wr/\copies k N acc=copies k (N-j) acc')) (fun _ i _=>N-(intOf i).toNat)
 case atStart=>exact ⟨0,n,c,A,acc,rfl,rfl,Zy _,Za rfl,Za ⟨HO.out.ext au.out,HX.out.trans au.out,rfl⟩⟩
 case round =>
  obtain ⟨j,p,q,A',acc',rfl,rfl,hj,hp,HH⟩:=hrel
  obtain ⟨wa,rfl⟩:∃wa:World,wa=wr:=⟨_,rfl⟩
  have hpb:p<=300:=by have:=hp.out;omega
  have hpk:k<=p:=by have:=hp.out;have:=av.out;omega
  by_cases hlt:j<N
  ·have q1:(j:Int)<(N:Int):=by omega
   have hkk:=av.out
   obtain ⟨b0,off0,x,rfl,hb0,d0,d1,ay,az⟩:=HH.out.1.row (j:=p-k) (by omega)
   have e1:(p:Int)-(k:Int)=((p-k:Nat):Int):=by omega
   have e2:((p:Int)-(k:Int)).toNat=p-k:=by omega
   have i1:=Zh ((p:Int)-(k:Int)) (by omega)
   have i2:=Zh ((j:Int)+1) (by omega)
   have z0:(0:Int)<=(p:Int)-(k:Int):=by omega
   have z1:(p:Int)-(k:Int)<(p:Int):=by omega
   have z2:(0:Int)<=(j:Int):=by omega
   have ar:=HH.out.1.len
   have an:=Za (show copies k N acc=copies k (N-(j+1)) (acc'++[acc'.getD (p-k) ro0]) by
    rw [HH.out.2.2,show N-j=N-(j+1)+1 by omega,copies,ar])
   obtain ⟨xb,xA,xn,xc⟩:=x
   simp only at d0 d1 az
   have aB:=Za ay
   clear ay e1
   go_wp2_with (first
    | (at_builtin;(refine zak (w:=W) (t:=acc') (r:=[acc'.getD (p-k) ro0]) (ys:=[⟨xb,xA,xn,xc⟩]) 22 75 (.agg #[.bool false,.slice none 0 0]) 32 (by rfl) (by rfl) Tryz.underlying22 zbB (by rfl) (by omega) (by rfl) (by rfl) (HH.out.1.ext zx) (HH.out.2.1.trans zx) (Vec.lit2 (w:=wa) (by rfl) (by rfl) (by rfl)) (zbH (aB.out.keep (Zl (show Ext wa _ from zx)) (fun b hb hk=>⟨hk,fun o=>Zs (p:=⟨b,o,none⟩) (show Ext wa _ from zx) hb⟩))) (fun y hy=>by simp at hy;subst hy;exact az) (by omega) ?_;intro v' w6 ae ak;obtain ⟨A6,c6,rfl, -⟩:=zbE ae (by omega);have aA:=Za ae;clear ae)))
   go_roundw
   case rel=>exact ⟨j+1,p+1,c6,A6,acc'++[acc'.getD (p-k) ro0],by go_num,by go_num,by omega,Za (by have:=hp.out;omega),Za ⟨aA.out,ak.out,an.out⟩⟩
   case measure=>simp [intOf] <;> omega
  ·obtain rfl:N=j:=by omega
   have aq:=HH.out.2.2
   rw [Nat.sub_self] at aq
   have an:=Za (show copies k N acc=acc' from aq)
   have q1:¬((N:Int)<(N:Int)):=by omega
   have ar:=HH.out.1.len
   clear aq
   by_cases h100:n+N<=100
   ·have aC:=Za (show addP atoiO acc s=some acc' by rw [ax.out,if_pos h100,an.out])
    have q2:(p:Int)<=100:=by have:=hp.out;omega
    go_wp2_with fail
    go_ret2
    exact AddR.yes aC.out ar HH.out.2.1 HH.out.1
   ·have HNO:=Za (show addP atoiO acc s=none by rw [ax.out,if_neg h100])
    have q2:¬((p:Int)<=100):=by have:=hp.out;omega
    go_wp2_with fail
    go_ret2
    exact AddR.nob (by first | rfl | exact ZF (by omega)) HNO.out HH.out.2.1
theorem zkp (W w:World) (A:Option Addr) (n c:Nat) (acc:List Ro) (s:List UInt8) (hx:Ext W w) (ho:OwnQ w W.heap.size 75 (.slice A n c) n acc) (hn:n<=100) (hs:s.length<=100000) (hg:Glob w) (ha:¬s.take 6=agnB) :
  Calls Tryz.prog 46 #[.slice A n c,.string ⟨s.toArray⟩] w (AddR W acc s):=by
 have HX:=Za hx
 have HO:=Za ho
 have HG:=Za hg
 have aq:=ho.len
 have ax:=Za aq
 have ai:=Za (fun (w':World)=>zdX s w')
 rw [if_neg ha,ZF ha] at ai
 have aj:=Za (fun (w':World) (h:Ext w w')=>zho 32 s (by omega) w' (hg.ext h))
 obtain ⟨aF,aG⟩:=zhp 32 s
 have ar:=fun (sd:List UInt8)=>zly (acc:=acc) (s:=s) (sd:=sd) ha
 have ad:=fun (sd r:List UInt8) (bk:Bool)=>znC (acc:=acc) (s:=s) (sd:=sd) (r:=r) (bk:=bk) ha
 obtain ⟨sd,az⟩:∃a,(cutA 32 s).1=a:=⟨_,rfl⟩
 obtain ⟨r,hr⟩:∃b,(cutA 32 s).2=b:=⟨_,rfl⟩
 rw [az,hr] at aj
 rw [hr] at aG
 have ar:=ar sd az
 have ad:=ad sd r
 have ay:=Za (fun (w':World) (h:Ext w w')=>zmm r (by omega) trivial w' (hg.ext h))
 have aE:=Za az
 have HR:=Za hr
 clear hx ho hg hs ha az hr aF aq
 obtain ⟨bk,hbk⟩:∃bk,(sd==[98,97,99,107])=bk:=⟨_,rfl⟩
 have ad:=ad bk aE.out HR.out
 by_cases hf:(sd==[102,114,111,110,116])=false/\bk=false
 ·obtain ⟨h1,rfl⟩:=hf
  have ae:(sd != [102,114,111,110,116])=true:=by simpa using h1
  have ab:(sd != [98,97,99,107])=true:=by simpa using hbk
  have HNO:=Za (ar h1 hbk)
  clear ar ad
  go_enter Tryz.func46,Tryz.ntmps46
  go_wp2_with (first
   | (go_at_call 78;((with_reducible refine (ai.out _).mono ?_);rintro e w9 ⟨rfl,au⟩;subst w9))
   | (go_at_call 45;((with_reducible refine (aj.out _ zx).mono ?_);rintro e w1 ⟨f1,rfl,hq1⟩)))
  go_ret2
  exact AddR.no HNO.out (HX.out.trans zx)
 ·have aB:(sd==[102,114,111,110,116])=true∨bk=true:=by
   cases hq:(sd==[102,114,111,110,116]) with
   | true=>exact .inl rfl
   | false =>
    cases hb:bk with
    | true=>exact .inr rfl
    | false=>exact absurd ⟨hq,hb⟩ hf
  have ad:=ad aB hbk
  have aA:((sd==[102,114,111,110,116])=true/\bk=false)∨((sd==[102,114,111,110,116])=false/\bk=true):=by
   cases hq:(sd==[102,114,111,110,116]) with
   | true =>
    left
    refine ⟨rfl,?_⟩
    have h9:sd=[102,114,111,110,116]:=by simpa using hq
    rw [<-hbk,h9]
    rfl
   | false =>
    right
    refine ⟨rfl,?_⟩
    rcases aB with h | h
    ·rw [hq] at h;cases h
    ·exact h
  clear ar aB hf
  cases hp:parseT atoiO r with
  | none =>
   rw [hp] at ad
   have HNO:=Za ad
   have HP1:=Za (show ∀(w':World),Ext w w'->Calls Tryz.prog 80 #[.string ⟨r.toArray⟩] w' fun e w''=>e = .returned (.tuple #[.slice none 0 0,.int .i64 12])/\Ext w' w'' from fun w' h=>by
    refine (ay.out w' h).mono ?_
    rintro e w9 ⟨v,x,rfl,hb,⟨_,rfl,rfl⟩ | ⟨t,h2,_⟩⟩
    ·exact ⟨rfl,hb⟩
    ·rw [hp] at h2;cases h2)
   clear ad hp ay
   rcases aA with ⟨h1,rfl⟩ | ⟨h1,rfl⟩ <;>
   ·have ae:(sd != [102,114,111,110,116]) = !(sd==[102,114,111,110,116]):=rfl
    rw [h1] at ae
    have ab:(sd != [98,97,99,107]) = !(sd==[98,97,99,107]):=rfl
    rw [hbk] at ab
    simp only [Bool.not_true,Bool.not_false] at ae ab
    go_enter Tryz.func46,Tryz.ntmps46
    go_wp2_with (first
     | (go_at_call 78;((with_reducible refine (ai.out _).mono ?_);rintro e w9 ⟨rfl,au⟩;subst w9))
     | (go_at_call 45;((with_reducible refine (aj.out _ zx).mono ?_);rintro e w1 ⟨f1,rfl,hq1⟩))
     | (go_at_call 80;((with_reducible refine (HP1.out _ zx).mono ?_);rintro e w2 ⟨rfl,hq2⟩)))
    go_ret2
    exact AddR.no HNO.out (HX.out.trans zx)
  | some t =>
   rw [hp] at ad
   simp only at ad
   obtain ⟨g1,g2,g3⟩:=(za6 zhh).1 hp
   obtain ⟨g4,g5,g6⟩:=zaN g2
   have g7:=zap t
   have gcl:=(zid g2).2.2.2
   have gby:Bytes t.cells:=zcf (ze2 g6)
   have HP1:=Za (show ∀(w':World),Ext w w'->Calls Tryz.prog 80 #[.string ⟨r.toArray⟩] w' fun e w''=>∃(A1:Option Addr) (c1:Nat),e = .returned (.tuple #[.slice A1 t.cnt c1,.int .i64 0])/\Ext w' w''/\Tv w'' A1 t.cnt t from fun w' h=>by
    refine (ay.out w' h).mono ?_
    rintro e w9 ⟨v,x,rfl,hb,⟨h2,_,_⟩ | ⟨t2,h2,rfl,ho⟩⟩
    ·rw [hp] at h2;cases h2
    ·rw [hp] at h2
     cases h2
     obtain ⟨A1,c1,rfl,hv⟩:=zaA ho (by omega)
     exact ⟨A1,c1,rfl,hb,hv.tv⟩)
   have aw:=Za (show ∀(A1:Option Addr) (c1:Nat) (w':World),Tv w' A1 t.cnt t->Calls Tryz.prog 81 #[.slice A1 t.cnt c1] w' fun e w''=>∃(A2:Option Addr) (n2 c2:Nat),e = .returned (.tuple #[.slice A2 n2 c2,.int .i64 0])/\Ext w' w''/\Vec shSt w'' A2 n2 t.cells/\(0<n2->∀b off,A2=some ⟨b,off,none⟩->w'.heap.size<=b)/\n2<=c2 from fun A1 c1 w' h=>by
    refine (zmZ t (by omega) A1 t.cnt c1 w' h).mono ?_
    rintro e w9 ⟨A2,n2,c2,rfl,h1,h2,h3,h4⟩
    rw [if_pos g2] at h2
    rw [g2]
    exact ⟨A2,n2,c2,rfl,h1,h2,h3,h4⟩)
   clear hp ay g1 g3 g4 g5 g6 g7
   have av:=Za gby
   clear gby
   by_cases h100:n<100
   ·have p1:(n:Int)<100:=by omega
    have aD:=Za (show addP atoiO acc s=some (acc++[⟨bk,t.cells⟩]) by rw [ad,if_pos (by rw [ax.out];exact h100)])
    clear ad
    rcases aA with ⟨h1,rfl⟩ | ⟨h1,rfl⟩
    ·have ae:(sd != [102,114,111,110,116]) = !(sd==[102,114,111,110,116]):=rfl
     rw [h1] at ae
     have ab:(sd != [98,97,99,107]) = !(sd==[98,97,99,107]):=rfl
     rw [hbk] at ab
     simp only [Bool.not_true,Bool.not_false] at ae ab
     go_enter Tryz.func46,Tryz.ntmps46
     go_wp2_with (first
      | (go_at_call 78;((with_reducible refine (ai.out _).mono ?_);rintro e w9 ⟨rfl,au⟩;subst w9))
      | (go_at_call 45;((with_reducible refine (aj.out _ zx).mono ?_);rintro e w1 ⟨f1,rfl,hq1⟩))
      | (go_at_call 80;((with_reducible refine (HP1.out _ zx).mono ?_);rintro e w2 ⟨A1,c1,rfl,hq2,hv2⟩;have al:=Za hv2;clear hv2))
      | (go_at_call 81;((with_reducible refine (aw.out _ _ _ (al.out.ext zx)).mono ?_);rintro e w3 ⟨A2,n2,c2,rfl,aC,af,ah,ao⟩;have am:=Za af;have ag:=Za (show 0<n2->∀b off,A2=some ⟨b,off,none⟩->w.heap.size<=b from fun h b off e=>ZD (Zl (show Ext w _ from zx)) (ah h b off e));have ak:=Za (show n2<=maxLen by rw [<-af.1];unfold maxLen;omega);clear af ah))
      | (at_builtin;(refine zak (w:=W) (t:=acc) (r:=[⟨false,t.cells⟩]) (ys:=[⟨false,A2,n2,c2⟩]) 22 75 (.agg #[.bool false,.slice none 0 0]) 32 (by rfl) (by rfl) Tryz.underlying22 zbB (by rfl) (by omega) (by rfl) (by rfl) (HO.out.ext zx) (HX.out.trans zx) (Vec.lit2 (w:=w3) (by rfl) (by rfl) (by rfl)) (zbH (show RoAt _ (Kq W.heap.size (.slice A n c)) ⟨false,A2,n2,c2⟩ ⟨false,t.cells⟩ from ⟨rfl,am.out.ext zx,ak.out,av.out,fun h b off e=>⟨ZD (Zl HX.out) (ag.out h b off e),fun e8=>by have h7:=(HO.out.blk b e8.symm).2;have h6:=ag.out h b off e;omega⟩⟩)) (fun y hy=>by simp at hy;subst hy;exact ao) (by omega) ?_;intro v' w6 aa ac;obtain ⟨A6,c6,rfl, -⟩:=zbE aa (by omega);have ap:=Za aa;have an:=Za ac.out;clear aa)))
     go_ret2
     exact AddR.yes aD.out (by rw [Zb,ax.out];rfl) an.out ap.out
    ·have ae:(sd != [102,114,111,110,116]) = !(sd==[102,114,111,110,116]):=rfl
     rw [h1] at ae
     have ab:(sd != [98,97,99,107]) = !(sd==[98,97,99,107]):=rfl
     rw [hbk] at ab
     simp only [Bool.not_true,Bool.not_false] at ae ab
     go_enter Tryz.func46,Tryz.ntmps46
     go_wp2_with (first
      | (go_at_call 78;((with_reducible refine (ai.out _).mono ?_);rintro e w9 ⟨rfl,au⟩;subst w9))
      | (go_at_call 45;((with_reducible refine (aj.out _ zx).mono ?_);rintro e w1 ⟨f1,rfl,hq1⟩))
      | (go_at_call 80;((with_reducible refine (HP1.out _ zx).mono ?_);rintro e w2 ⟨A1,c1,rfl,hq2,hv2⟩;have al:=Za hv2;clear hv2))
      | (go_at_call 81;((with_reducible refine (aw.out _ _ _ (al.out.ext zx)).mono ?_);rintro e w3 ⟨A2,n2,c2,rfl,aC,af,ah,ao⟩;have am:=Za af;have ag:=Za (show 0<n2->∀b off,A2=some ⟨b,off,none⟩->w.heap.size<=b from fun h b off e=>ZD (Zl (show Ext w _ from zx)) (ah h b off e));have ak:=Za (show n2<=maxLen by rw [<-af.1];unfold maxLen;omega);clear af ah))
      | (at_builtin;(refine zak (w:=W) (t:=acc) (r:=[⟨true,t.cells⟩]) (ys:=[⟨true,A2,n2,c2⟩]) 22 75 (.agg #[.bool false,.slice none 0 0]) 32 (by rfl) (by rfl) Tryz.underlying22 zbB (by rfl) (by omega) (by rfl) (by rfl) (HO.out.ext zx) (HX.out.trans zx) (Vec.lit2 (w:=w3) (by rfl) (by rfl) (by rfl)) (zbH (show RoAt _ (Kq W.heap.size (.slice A n c)) ⟨true,A2,n2,c2⟩ ⟨true,t.cells⟩ from ⟨rfl,am.out.ext zx,ak.out,av.out,fun h b off e=>⟨ZD (Zl HX.out) (ag.out h b off e),fun e8=>by have h7:=(HO.out.blk b e8.symm).2;have h6:=ag.out h b off e;omega⟩⟩)) (fun y hy=>by simp at hy;subst hy;exact ao) (by omega) ?_;intro v' w6 aa ac;obtain ⟨A6,c6,rfl, -⟩:=zbE aa (by omega);have ap:=Za aa;have an:=Za ac.out;clear aa)))
     go_ret2
     exact AddR.yes aD.out (by rw [Zb,ax.out];rfl) an.out ap.out
   ·have p1:¬((n:Int)<100):=by omega
    have HNO:=Za (show addP atoiO acc s=none by rw [ad,if_neg (by rw [ax.out];exact h100)])
    clear ad
    rcases aA with ⟨h1,rfl⟩ | ⟨h1,rfl⟩
    ·have ae:(sd != [102,114,111,110,116]) = !(sd==[102,114,111,110,116]):=rfl
     rw [h1] at ae
     have ab:(sd != [98,97,99,107]) = !(sd==[98,97,99,107]):=rfl
     rw [hbk] at ab
     simp only [Bool.not_true,Bool.not_false] at ae ab
     go_enter Tryz.func46,Tryz.ntmps46
     go_wp2_with (first
      | (go_at_call 78;((with_reducible refine (ai.out _).mono ?_);rintro e w9 ⟨rfl,au⟩;subst w9))
      | (go_at_call 45;((with_reducible refine (aj.out _ zx).mono ?_);rintro e w1 ⟨f1,rfl,hq1⟩))
      | (go_at_call 80;((with_reducible refine (HP1.out _ zx).mono ?_);rintro e w2 ⟨A1,c1,rfl,hq2,hv2⟩;have al:=Za hv2;clear hv2))
      | (go_at_call 81;((with_reducible refine (aw.out _ _ _ (al.out.ext zx)).mono ?_);rintro e w3 ⟨A2,n2,c2,rfl,aC,af,ah,ao⟩;have am:=Za af;have ag:=Za (show 0<n2->∀b off,A2=some ⟨b,off,none⟩->w.heap.size<=b from fun h b off e=>ZD (Zl (show Ext w _ from zx)) (ah h b off e));have ak:=Za (show n2<=maxLen by rw [<-af.1];unfold maxLen;omega);clear af ah))
      | (at_builtin;(refine zak (w:=W) (t:=acc) (r:=[⟨false,t.cells⟩]) (ys:=[⟨false,A2,n2,c2⟩]) 22 75 (.agg #[.bool false,.slice none 0 0]) 32 (by rfl) (by rfl) Tryz.underlying22 zbB (by rfl) (by omega) (by rfl) (by rfl) (HO.out.ext zx) (HX.out.trans zx) (Vec.lit2 (w:=w3) (by rfl) (by rfl) (by rfl)) (zbH (show RoAt _ (Kq W.heap.size (.slice A n c)) ⟨false,A2,n2,c2⟩ ⟨false,t.cells⟩ from ⟨rfl,am.out.ext zx,ak.out,av.out,fun h b off e=>⟨ZD (Zl HX.out) (ag.out h b off e),fun e8=>by have h7:=(HO.out.blk b e8.symm).2;have h6:=ag.out h b off e;omega⟩⟩)) (fun y hy=>by simp at hy;subst hy;exact ao) (by omega) ?_;intro v' w6 aa ac;obtain ⟨A6,c6,rfl, -⟩:=zbE aa (by omega);have ap:=Za aa;have an:=Za ac.out;clear aa)))
     go_ret2
     exact AddR.nob (by first | rfl | exact ZF (by omega)) HNO.out an.out
    ·have ae:(sd != [102,114,111,110,116]) = !(sd==[102,114,111,110,116]):=rfl
     rw [h1] at ae
     have ab:(sd != [98,97,99,107]) = !(sd==[98,97,99,107]):=rfl
     rw [hbk] at ab
     simp only [Bool.not_true,Bool.not_false] at ae ab
     go_enter Tryz.func46,Tryz.ntmps46
     go_wp2_with (first
      | (go_at_call 78;((with_reducible refine (ai.out _).mono ?_);rintro e w9 ⟨rfl,au⟩;subst w9))
      | (go_at_call 45;((with_reducible refine (aj.out _ zx).mono ?_);rintro e w1 ⟨f1,rfl,hq1⟩))
      | (go_at_call 80;((with_reducible refine (HP1.out _ zx).mono ?_);rintro e w2 ⟨A1,c1,rfl,hq2,hv2⟩;have al:=Za hv2;clear hv2))
      | (go_at_call 81;((with_reducible refine (aw.out _ _ _ (al.out.ext zx)).mono ?_);rintro e w3 ⟨A2,n2,c2,rfl,aC,af,ah,ao⟩;have am:=Za af;have ag:=Za (show 0<n2->∀b off,A2=some ⟨b,off,none⟩->w.heap.size<=b from fun h b off e=>ZD (Zl (show Ext w _ from zx)) (ah h b off e));have ak:=Za (show n2<=maxLen by rw [<-af.1];unfold maxLen;omega);clear af ah))
      | (at_builtin;(refine zak (w:=W) (t:=acc) (r:=[⟨true,t.cells⟩]) (ys:=[⟨true,A2,n2,c2⟩]) 22 75 (.agg #[.bool false,.slice none 0 0]) 32 (by rfl) (by rfl) Tryz.underlying22 zbB (by rfl) (by omega) (by rfl) (by rfl) (HO.out.ext zx) (HX.out.trans zx) (Vec.lit2 (w:=w3) (by rfl) (by rfl) (by rfl)) (zbH (show RoAt _ (Kq W.heap.size (.slice A n c)) ⟨true,A2,n2,c2⟩ ⟨true,t.cells⟩ from ⟨rfl,am.out.ext zx,ak.out,av.out,fun h b off e=>⟨ZD (Zl HX.out) (ag.out h b off e),fun e8=>by have h7:=(HO.out.blk b e8.symm).2;have h6:=ag.out h b off e;omega⟩⟩)) (fun y hy=>by simp at hy;subst hy;exact ao) (by omega) ?_;intro v' w6 aa ac;obtain ⟨A6,c6,rfl, -⟩:=zbE aa (by omega);have ap:=Za aa;have an:=Za ac.out;clear aa)))
     go_ret2
     exact AddR.nob (by first | rfl | exact ZF (by omega)) HNO.out an.out
theorem zhU (W w:World) (A:Option Addr) (n c:Nat) (acc:List Ro) (s:List UInt8) (hx:Ext W w) (ho:OwnQ w W.heap.size 75 (.slice A n c) n acc) (hn:n<=100) (hs:s.length<=100000) (hg:Glob w) :
  Calls Tryz.prog 46 #[.slice A n c,.string ⟨s.toArray⟩] w (AddR W acc s):=by
 by_cases ha:s.take 6=agnB
 ·exact ziG W w A n c acc s hx ho hn hs hg ha
 ·exact zkp W w A n c acc s hx ho hn hs hg ha
end Go.Proofs.YtkneghkbgingdaaGreatDoor
/- Rows of a list held against each other (the reference's same). -/
namespace Go.Proofs.YtkneghkbgingdaaGreatDoor
set_option maxRecDepth 100000
open Go.RowKit Go.ChangeShapes Go.WideShapes Go.Joins
theorem zi6 (A:Option Addr) (n c:Nat) (l:List Ro) (i j:Nat) (w:World) (hr:Rws w (fun _=>True) A n l) (hi:i<n) (hj:j<n) :
  Calls Tryz.prog 73 #[.slice A n c,.int .i64 i,.int .i64 j] w fun e w'=>e = .returned (.bool (decide (l.getD i ro0=l.getD j ro0)))/\Ext w w':=by
 obtain ⟨b,off,A1,n1,c1,rfl,hlt, -,d0,d1,v1,m1, -, -⟩:=hr.at_ hi
 obtain ⟨b2,off2,A2,n2,c2,e2, -, -,f0,f1,v2,m2, -, -⟩:=hr.at_ hj
 cases e2
 have q0:(0:Int)<=(i:Int):=by omega
 have q1:(i:Int)<(n:Int):=by omega
 have q2:(0:Int)<=(j:Int):=by omega
 have q3:(j:Int)<(n:Int):=by omega
 generalize l.getD i ro0=x at *
 generalize l.getD j ro0=y at *
 obtain ⟨xb,xc⟩:=x
 obtain ⟨yb,yc⟩:=y
 simp only at d0 f0 v1 v2
 have HV1:=Za v1
 have ac:=Za v2
 have ab:=Za m1
 clear hr v1 v2 m1 m2
 by_cases hb:xb=yb
 ·subst hb
  obtain ⟨z,hz⟩:∃z,decide (xc=yc)=z:=⟨_,rfl⟩
  have HN:=Za (show decide ((⟨xb,xc⟩:Ro)=⟨xb,yc⟩)=z by rw [<-hz];simp)
  have HZ:=Za hz
  have ad:(xb==xb)=true:=by simp
  clear hz
  go_enter Tryz.func73,Tryz.ntmps73
  go_wp2_with fail
  go_region_held3 (fun wx=>wx.cell? ⟨b,off+i*2,none⟩=some (.bool xb)/\wx.cell? ⟨b,off+j*2,none⟩=some (.bool xb)/\wx.cell? ⟨b,off+i*2+1,none⟩=some (.slice A1 n1 c1)/\wx.cell? ⟨b,off+j*2+1,none⟩=some (.slice A2 n2 c2)) (go_keep) (first
   | (go_at_call 49;((with_reducible refine (zdJ n1 n2 c1 c2 A1 A2 xc yc _ (HV1.out.ext zx) (ac.out.ext zx) ab.out).mono ?_);rintro e w5 ⟨rfl,ae⟩;rw [HZ.out];have aa:Ext w w5:=Zi zx ae;obtain ⟨h1,h2,h3⟩:=aa.facts;have d0':=(h1 _ _ hlt).trans d0;have d1':=(h1 _ _ hlt).trans d1;have f0':=(h1 _ _ hlt).trans f0;have f1':=(h1 _ _ hlt).trans f1)))
  all_goals
   go_wp2_with fail
   go_ret
   exact ⟨by rw [HN.out];rfl,aa⟩
 ·have HN:=Za (show decide ((⟨xb,xc⟩:Ro)=⟨yb,yc⟩)=false by simp [hb])
  have ad:(xb==yb)=false:=by simpa using hb
  clear hb
  go_enter Tryz.func73,Tryz.ntmps73
  go_wp2_with fail
  go_quiet (fail)
  go_wp2_with fail
  go_ret
  exact ⟨by rw [HN.out];rfl,zx⟩
end Go.Proofs.YtkneghkbgingdaaGreatDoor
/- How many times rows come again: the reference's again. -/
namespace Go.Proofs.YtkneghkbgingdaaGreatDoor
set_option maxRecDepth 100000
open Go.RowKit Go.ChangeShapes Go.WideShapes Go.Joins
theorem zfs {l:List Ro} {k f i:Nat} (h:l.getD i ro0=l.getD (i-k) ro0):eqRun l k (f+1) i=eqRun l k f (i+1)+1:=by rw [eqRun,if_pos h]
theorem zhy {l:List Ro} {k f i:Nat} (h:¬l.getD i ro0=l.getD (i-k) ro0):eqRun l k f i=0:=by
 cases f with
 | zero=>rfl
 | succ f=>rw [eqRun,if_neg h]
theorem ziS (A:Option Addr) (n c:Nat) (l:List Ro) (i k:Nat) (w:World) (hr:Rws w (fun _=>True) A n l) (hi:i<=n) (hn:n<=1000) (hk1:1<=k) (hk2:k<=2) :
  Calls Tryz.prog 41 #[.slice A n c,.int .i64 i,.int .i64 k] w fun e w'=>e = .returned (.int .i64 (repT l i k:Nat))/\Ext w w':=by
 have af:=Za hr
 have ad:=Za hr.len
 have q0:(0:Int)<=(i:Int):=by omega
 have k0:(1:Int)<=(k:Int):=by omega
 have k1:((k:Int)==0)=false:=by rw [Ze];omega
 clear hr
 by_cases hki:i<k
 ·have HN:=Za (show repT l i k=0 by rw [repT,if_pos hki])
  have p1:¬((k:Int)<=(i:Int)):=by omega
  go_enter Tryz.func41,Tryz.ntmps41
  go_wp2_with fail
  go_loopw [7] (fun v wr=>v = .int .i64 0/\wr=w) (fun _ _=>0)
  case atStart=>exact ⟨rfl,rfl⟩
  case round =>
   obtain ⟨rfl,ae⟩:=hrel
   rw [ae]
   clear ae
   go_wp2_with fail
   go_ret
   exact ⟨by rw [HN.out];simp,zx⟩
 ·have p1:(k:Int)<=(i:Int):=by omega
  go_enter Tryz.func41,Tryz.ntmps41
  go_wp2_with fail
  go_loopw [7] (fun v wr=>∃m:Nat,v = .int .i64 (m:Int)/\m<=n-i/\Hid (eqRun l k (n-i) i=m+eqRun l k (n-i-m) (i+m))/\Hid (Ext w wr)) (fun v _=>n-i-(intOf v).toNat)
  case atStart=>exact ⟨0,rfl,Zy _,Za (by simp),Za (Zf _)⟩
  case round =>
   obtain ⟨m,rfl,hm,HQ,HE⟩:=hrel
   obtain ⟨wa,rfl⟩:∃wa:World,wa=wr:=⟨_,rfl⟩
   have m0:(0:Int)<=(m:Int):=by omega
   obtain ⟨d,hd,ag⟩:∃d:Nat,(m:Int) / (k:Int)=(d:Int)/\d<=m:=⟨m / k,by simp,Nat.div_le_self m k⟩
   have hw:=Zh ((m:Int) / (k:Int)) (by rw [hd];omega)
   clear hd ag d
   have i1:=Zh ((i:Int)+(m:Int)) (by omega)
   have i2:=Zh ((i:Int)+(m:Int)-(k:Int)) (by omega)
   by_cases hlt:i+m<n
   ·have q1:(i:Int)+(m:Int)<(n:Int):=by omega
    have e1:(i:Int)+(m:Int)=((i+m:Nat):Int):=by omega
    have e2:(i:Int)+(m:Int)-(k:Int)=((i+m-k:Nat):Int):=by omega
    have aa:=fun (w':World) (h:Ext wa w')=>zi6 A n c l (i+m) (i+m-k) w' (af.out.ext (HE.out.trans h)) (by omega) (by omega)
    rw [<-e1,<-e2] at aa
    obtain ⟨f,hf⟩:∃f,n-i-m=f+1:=⟨n-i-m-1,by omega⟩
    have ac:n-i-(m+1)=f:=by omega
    have hq:=HQ.out
    rw [hf] at hq
    by_cases hz:l.getD (i+m) ro0=l.getD (i+m-k) ro0
    ·rw [ZW hz] at aa
     have ab:=Za aa
     have HN:=Za (show eqRun l k (n-i) i=(m+1)+eqRun l k (n-i-(m+1)) (i+(m+1)) by rw [hq,zfs hz,ac,show i+(m+1)=i+m+1 by omega];omega)
     clear aa hz hq hf ac e1 e2
     go_wp2_with (first
      | (go_at_call 73;((with_reducible refine (ab.out _ zx).mono ?_);rintro e w5 ⟨rfl,ah⟩)))
     go_roundw
     case rel=>exact ⟨m+1,by go_num,by omega,HN,Za (HE.out.trans zx)⟩
     case measure=>simp [intOf] <;> omega
    ·rw [ZF hz] at aa
     have ab:=Za aa
     have HN:=Za (show repT l i k=m / k by rw [repT,if_neg hki,ad.out,hq,zhy hz,Nat.add_zero])
     clear aa hz hq hf ac e1 e2
     go_wp2_with (first
      | (go_at_call 73;((with_reducible refine (ab.out _ zx).mono ?_);rintro e w5 ⟨rfl,ah⟩)))
     go_ret
     exact ⟨by rw [HN.out];simp,HE.out.trans zx⟩
   ·have q1:¬((i:Int)+(m:Int)<(n:Int)):=by omega
    have HN:=Za (show repT l i k=m / k by
     rw [repT,if_neg hki,ad.out,HQ.out,show n-i-m=0 by omega]
     rfl)
    go_wp2_with fail
    go_ret
    exact ⟨by rw [HN.out];simp,HE.out⟩
end Go.Proofs.YtkneghkbgingdaaGreatDoor
/- How many times rows come again: the program's repeats. -/
namespace Go.Proofs.YtkneghkbgingdaaGreatDoor
set_option maxRecDepth 100000
open Go.RowKit Go.ChangeShapes Go.WideShapes Go.Joins
theorem zgS (A:Option Addr) (n c:Nat) (l:List Ro) (i k:Nat) (w:World) (hr:Rws w (fun _=>True) A n l) (hi:i<=n) (hn:n<=1000) (hk1:1<=k) (hk2:k<=2) :
  Calls Tryz.prog 35 #[.slice A n c,.int .i64 i,.int .i64 k] w fun e w'=>e = .returned (.int .i64 (repT l i k:Nat))/\Ext w w':=by
 have ah:=Za hr
 have ag:=Za hr.len
 have q0:(0:Int)<=(i:Int):=by omega
 have k0:(1:Int)<=(k:Int):=by omega
 have k1:((k:Int)==0)=false:=by rw [Ze];omega
 clear hr
 by_cases hki:i<k
 ·have HN:=Za (show repT l i k=0 by rw [repT,if_pos hki])
  have p1:(i:Int)<(k:Int):=by omega
  go_enter Tryz.func35,Tryz.ntmps35
  go_wp2_with fail
  go_ret
  exact ⟨by rw [HN.out];simp,zx⟩
 ·have p1:¬((i:Int)<(k:Int)):=by omega
  go_enter Tryz.func35,Tryz.ntmps35
  go_wp2_with fail
  go_loopw [7] (fun v wr=>∃m:Nat,v = .int .i64 (m:Int)/\m<=n-i/\Hid (eqRun l k (n-i) i=m+eqRun l k (n-i-m) (i+m))/\Hid (Ext w wr)) (fun v _=>n-i-(intOf v).toNat)
  case atStart=>exact ⟨0,rfl,Zy _,Za (by simp),Za (Zf _)⟩
  case round =>
   obtain ⟨m,rfl,hm,HQ,HE⟩:=hrel
   obtain ⟨wa,rfl⟩:∃wa:World,wa=wr:=⟨_,rfl⟩
   have m0:(0:Int)<=(m:Int):=by omega
   obtain ⟨d,hd,an⟩:∃d:Nat,(m:Int) / (k:Int)=(d:Int)/\d<=m:=⟨m / k,by simp,Nat.div_le_self m k⟩
   have hw:=Zh ((m:Int) / (k:Int)) (by rw [hd];omega)
   clear hd an d
   have i1:=Zh ((i:Int)+(m:Int)) (by omega)
   have i2:=Zh ((i:Int)+(m:Int)-(k:Int)) (by omega)
   by_cases hlt:i+m<n
   ·have q1:(i:Int)+(m:Int)<(n:Int):=by omega
    have e1:(i:Int)+(m:Int)=((i+m:Nat):Int):=by omega
    have e2:(i:Int)+(m:Int)-(k:Int)=((i+m-k:Nat):Int):=by omega
    have q2:(0:Int)<=(i:Int)+(m:Int):=by omega
    have q3:(0:Int)<=(i:Int)+(m:Int)-(k:Int):=by omega
    have q4:(i:Int)+(m:Int)-(k:Int)<(n:Int):=by omega
    have q5:(k:Int)<=(i:Int)+(m:Int):=by omega
    obtain ⟨f,hf⟩:∃f,n-i-m=f+1:=⟨n-i-m-1,by omega⟩
    have ai:n-i-(m+1)=f:=by omega
    have hq:=HQ.out
    rw [hf] at hq
    obtain ⟨b,off,A1,n1,c1,rfl,ab, -,d0,d1,v1,m1, -, -⟩:=(ah.out.ext HE.out).at_ (k:=i+m) hlt
    obtain ⟨b2,off2,A2,n2,c2,e9, -, -,f0,f1,v2,m2, -, -⟩:=(ah.out.ext HE.out).at_ (k:=i+m-k) (by omega)
    cases e9
    have HS:=Za (show decide (l.getD (i+m) ro0=l.getD (i+m-k) ro0)=(decide ((l.getD (i+m) ro0).back=(l.getD (i+m-k) ro0).back) && decide ((l.getD (i+m) ro0).cells=(l.getD (i+m-k) ro0).cells)) by
     generalize l.getD (i+m) ro0=x
     generalize l.getD (i+m-k) ro0=y
     obtain ⟨xb,xc⟩:=x
     obtain ⟨yb,yc⟩:=y
     simp)
    have HY:=Za (fun (h:l.getD (i+m) ro0=l.getD (i+m-k) ro0)=>show eqRun l k (n-i) i=(m+1)+eqRun l k (n-i-(m+1)) (i+(m+1)) by rw [hq,zfs h,ai,show i+(m+1)=i+m+1 by omega];omega)
    have HN:=Za (fun (h:¬l.getD (i+m) ro0=l.getD (i+m-k) ro0)=>show repT l i k=m / k by rw [repT,if_neg hki,ag.out,hq,zhy h,Nat.add_zero])
    clear hq hf ai f
    obtain ⟨xb,ac⟩:∃xb,(l.getD (i+m) ro0).back=xb:=⟨_,rfl⟩
    obtain ⟨yb,ae⟩:∃yb,(l.getD (i+m-k) ro0).back=yb:=⟨_,rfl⟩
    obtain ⟨xc,ad⟩:∃xc,(l.getD (i+m) ro0).cells=xc:=⟨_,rfl⟩
    obtain ⟨yc,af⟩:∃yc,(l.getD (i+m-k) ro0).cells=yc:=⟨_,rfl⟩
    have aa:=HS.out
    rw [ac,ae,ad,af] at aa
    have HS:=Za aa
    clear aa
    rw [ac] at d0
    rw [ae] at f0
    rw [ad] at v1
    rw [af] at v2
    have HV1:=Za v1
    have al:=Za v2
    have aj:=Za m1
    clear v1 v2 m1 m2 ac ae ad af
    have e3:((i:Int)+(m:Int)-(k:Int)).toNat=i+m-k:=by omega
    have e4:((i:Int)+(m:Int)).toNat=i+m:=by omega
    clear e1 e2
    by_cases hb:xb=yb
    ·subst hb
     have am:(xb==xb)=true:=by simp
     obtain ⟨z,hz⟩:∃z,decide (xc=yc)=z:=⟨_,rfl⟩
     have HZ:=Za hz
     have aa:=HS.out
     rw [hz,ZW rfl,Bool.true_and] at aa
     have HS:=Za aa
     clear aa hz
     go_wp2_with fail
     go_region_held3 (fun wx=>wx.cell? ⟨b,off+(i+m)*2,none⟩=some (.bool xb)/\wx.cell? ⟨b,off+(i+m-k)*2,none⟩=some (.bool xb)/\wx.cell? ⟨b,off+(i+m)*2+1,none⟩=some (.slice A1 n1 c1)/\wx.cell? ⟨b,off+(i+m-k)*2+1,none⟩=some (.slice A2 n2 c2)) (go_keep) (first
      | (go_at_call 68;((with_reducible refine (zlf n1 n2 c1 c2 A1 A2 xc yc _ (HV1.out.ext zx) (al.out.ext zx) aj.out).mono ?_);rintro e w5 ⟨rfl,ao⟩;rw [HZ.out];have ap:Ext wa w5:=Zi zx ao;obtain ⟨h1,h2,h3⟩:=ap.facts;have d0':=(h1 _ _ ab).trans d0;have d1':=(h1 _ _ ab).trans d1;have f0':=(h1 _ _ ab).trans f0;have f1':=(h1 _ _ ab).trans f1)))
     all_goals
      cases z with
      | true =>
       go_wp2_with fail
       go_roundw
       case rel=>exact ⟨m+1,by go_num,by omega,Za (HY.out (of_decide_eq_true HS.out)),Za (HE.out.trans zx)⟩
       case measure=>simp [intOf] <;> omega
      | false =>
       go_wp2_with fail
       go_ret
       exact ⟨by rw [HN.out (of_decide_eq_false HS.out)];simp,HE.out.trans zx⟩
    ·have am:(xb==yb)=false:=by simpa using hb
     have aa:=HS.out
     rw [ZF hb,Bool.false_and] at aa
     have ak:=Za (HN.out (of_decide_eq_false aa))
     clear aa hb
     go_wp2_with fail
     go_quiet (fail)
     go_wp2_with fail
     go_ret
     exact ⟨by rw [ak.out];simp,HE.out.trans zx⟩
   ·have q1:¬((i:Int)+(m:Int)<(n:Int)):=by omega
    have q2:decide ((i:Int)+(m:Int)<(n:Int))=false:=ZF q1
    have HN:=Za (show repT l i k=m / k by
     rw [repT,if_neg hki,ag.out,HQ.out,show n-i-m=0 by omega]
     rfl)
    go_wp2_with fail
    go_quiet (fail)
    go_wp2_with fail
    go_ret
    exact ⟨by rw [HN.out];simp,HE.out.trans zx⟩
end Go.Proofs.YtkneghkbgingdaaGreatDoor
