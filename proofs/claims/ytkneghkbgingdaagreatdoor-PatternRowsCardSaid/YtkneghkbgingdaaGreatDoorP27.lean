/- A line put behind rows (the program's add). -/
import Derived.Test.YtkneghkbgingdaaGreatDoorP17
import Derived.Test.YtkneghkbgingdaaGreatDoorP26
import Derived.Test.YtkneghkbgingdaaGreatDoorP09
import Derived.Test.YtkneghkbgingdaaGreatDoorP02
import Derived.Test.YtkneghkbgingdaaGreatDoorP11
import Derived.Test.YtkneghkbgingdaaGreatDoorP08
import Derived.Test.YtkneghkbgingdaaGreatDoorP01
namespace Go.Proofs.YtkneghkbgingdaaGreatDoor
set_option maxRecDepth 100000
set_option maxRecDepth 100000
open Go.RowKit Go.ChangeShapes Go.WideShapes Go.Joins
def AddR (W:World) (acc:List Ro) (s:List UInt8) (e:Ending) (w':World):Prop:=∃(V:Value) (ok:Bool),e = .returned (.tuple #[V,.bool ok])∧Ext W w' ∧
 ((addP atoiO acc s=none∧ok=false∧∃(A:Option Addr) (n c:Nat),V = .slice A n c)∨∃l,addP atoiO acc s=some l∧ok=true∧OwnQ w' W.heap.size 75 V l.length l)
theorem AddR.no {W w':World} {acc:List Ro} {s:List UInt8} {A:Option Addr} {n c:Nat} (h:addP atoiO acc s=none) (hb:Ext W w'):AddR W acc s (.returned (.tuple #[.slice A n c,.bool false])) w':=⟨_,_,rfl,hb,.inl ⟨h,rfl,A,n,c,rfl⟩⟩
theorem AddR.nob {W w':World} {acc:List Ro} {s:List UInt8} {A:Option Addr} {n c:Nat} {ok:Bool} (hk:ok=false) (h:addP atoiO acc s=none) (hb:Ext W w'):AddR W acc s (.returned (.tuple #[.slice A n c,.bool ok])) w':=⟨_,_,rfl,hb,.inl ⟨h,hk,A,n,c,rfl⟩⟩
theorem AddR.yes {W w':World} {acc l:List Ro} {s:List UInt8} {V:Value} {k:Nat} (h:addP atoiO acc s=some l) (hk:l.length=k) (hb:Ext W w') (ho:OwnQ w' W.heap.size 75 V k l):AddR W acc s (.returned (.tuple #[V,.bool true])) w':=by
 subst hk
 exact ⟨_,_,rfl,hb,.inr ⟨l,h,rfl,ho⟩⟩
theorem zmZ:∀k:Nat,k≤200→atoiO (decD k)=some (k:Int):=fun k hk=>zmV k (by omega)
theorem zmE {acc:List Ro} {s:List UInt8} {k m:Int} (h:s.take 6=agnB) (hk:numP atoiO (cutA 32 (s.drop 6)).1=k) (hm:numP atoiO (cutA 32 (s.drop 6)).2=m) (hc:k<1∨2<k∨(acc.length:Int)<k∨m<1∨100<m):addP atoiO acc s=none:=by
 subst hk
 subst hm
 rw [addP,if_pos h]
 exact if_pos hc
theorem zma {acc:List Ro} {s:List UInt8} {k m:Nat} (h:s.take 6=agnB) (hk:numP atoiO (cutA 32 (s.drop 6)).1=(k:Int)) (hm:numP atoiO (cutA 32 (s.drop 6)).2=(m:Int)) (hc:¬((k:Int)<1∨2<(k:Int)∨(acc.length:Int)<(k:Int)∨(m:Int)<1∨100<(m:Int))) :
  addP atoiO acc s=if acc.length+k*m≤100 then some (copies k (k*m) acc) else none:=by
 rw [addP,if_pos h]
 simp only
 rw [hk,hm,if_neg hc]
 have e:(k:Int)*(m:Int)=((k*m:Nat):Int):=by rw [Int.natCast_mul]
 rw [e,Int.toNat_natCast,Int.toNat_natCast]
 by_cases h2:acc.length+k*m≤100
 ·rw [if_pos h2,if_pos (by omega)]
 ·rw [if_neg h2,if_neg (by omega)]
theorem zk4 {acc:List Ro} {s sd:List UInt8} (h:¬s.take 6=agnB) (hs:(cutA 32 s).1=sd) (h1:(sd==[102,114,111,110,116])=false) (h2:(sd==[98,97,99,107])=false):addP atoiO acc s=none:=by
 rw [addP,if_neg h,hs]
 exact if_pos ⟨by simpa [sideB] using h1,by simpa [sideB] using h2⟩
theorem zlM {acc:List Ro} {s sd r:List UInt8} {bk:Bool} (h:¬s.take 6=agnB) (hs:(cutA 32 s).1=sd) (hr:(cutA 32 s).2=r) (h1:(sd==[102,114,111,110,116])=true∨bk=true) (h2:(sd==[98,97,99,107])=bk) :
  addP atoiO acc s=match parseT atoiO r with
  | none=>none
  | some t=>if acc.length<100 then some (acc++[⟨bk,t.cells⟩]) else none:=by
 rw [addP,if_neg h,hs,hr]
 have e:decide (sd=sideB true)=bk:=by rw [←h2];by_cases h9:sd=[98,97,99,107] <;> simp [h9,sideB]
 rw [e]
 refine if_neg ?_
 rintro ⟨g1,g2⟩
 rcases h1 with h1 | h1
 ·exact g1 (by simpa [sideB] using h1)
 ·rw [h1] at h2
  exact g2 (by simpa [sideB] using h2)
theorem zks {n:Nat} {g:List St} (h:allB g=true):allB (rep n g)=true:=by
 induction n with
 | zero=>rfl
 | succ n ih =>
  rw [rep]
  unfold allB at *
  rw [List.all_append,h,ih]
  rfl
theorem zdR:∀ {t:Tms},fineT t=true→allB t.cells=true:=by
 intro t
 induction t with
 | nil=>intro _;rfl
 | cons N c g r ih1 ih2 =>
  intro h
  obtain ⟨hn,hg,hr,hc, -⟩:=zaK h
  have a1:=ih1 hg
  have b1:=ih2 hr
  rw [zc2]
  have h9:allB (rep N.toNat (ownC c g))=true:=by
   apply zks
   by_cases h0:g = .nil
   ·subst h0
    rw [zem]
    simp [allB,hc rfl]
   ·rw [zcM c (by cases g with | nil=>exact absurd rfl h0 | cons=>simp [Tms.cnt])]
    exact a1
  unfold allB at *
  rw [List.all_append,h9,b1]
  rfl
set_option maxHeartbeats 8000000 in
theorem zh7 (W w:World) (A:Option Addr) (n c:Nat) (acc:List Ro) (s:List UInt8) (hx:Ext W w) (ho:OwnQ w W.heap.size 75 (.slice A n c) n acc) (hn:n≤100) (hs:s.length≤100000) (hg:Glob w) (ha:s.take 6=agnB) :
  Calls Tryz.prog 46 #[.slice A n c,.string ⟨s.toArray⟩] w (AddR W acc s):=by
 have HX:=Lib.hid hx
 have HO:=Lib.hid ho
 have HG:=Lib.hid hg
 have hlen:=ho.len
 have HLN:=Lib.hid hlen
 have HCP:=Lib.hid (fun (w':World)=>zdA s w')
 rw [if_pos ha,decide_eq_true ha] at HCP
 obtain ⟨r,hr⟩:∃r,s.drop 6=r:=⟨_,rfl⟩
 have hrl:r.length≤100000:=by rw [←hr,List.length_drop];omega
 have HCU:=Lib.hid (fun (w':World) (h:Ext w w')=>zd2 32 r (by omega) w' (hg.ext h))
 obtain ⟨hal,hbl⟩:=zdP 32 r
 have hbad:=fun (k m:Int)=>zmE (acc:=acc) (s:=s) (k:=k) (m:=m) ha
 have hrep:=fun (k m:Nat)=>zma (acc:=acc) (s:=s) (k:=k) (m:=m) ha
 rw [hr] at HCP hbad hrep
 obtain ⟨a,haa⟩:∃a,(cutA 32 r).1=a:=⟨_,rfl⟩
 obtain ⟨b,hbb⟩:∃b,(cutA 32 r).2=b:=⟨_,rfl⟩
 rw [haa,hbb] at HCU hbad hrep
 rw [haa] at hal
 rw [hbb] at hbl
 have HN1:=Lib.hid (fun (w':World) (h:Ext w w')=>zc6 a (by omega) w' (hg.ext h))
 have HN2:=Lib.hid (fun (w':World) (h:Ext w w')=>zc6 b (by omega) w' (hg.ext h))
 obtain ⟨k,hk⟩:∃k,numP atoiO a=k:=⟨_,rfl⟩
 obtain ⟨m,hm⟩:∃m,numP atoiO b=m:=⟨_,rfl⟩
 rw [hk] at HN1
 rw [hm] at HN2
 have hbad:=hbad k m hk hm
 rw [hlen] at hbad
 have HBAD:=Lib.hid hbad
 have HREP:=Lib.hid hrep
 have HK:=Lib.hid hk
 have HM:=Lib.hid hm
 clear hx ho hg hs ha hr haa hbb hk hm hbad hrep hlen
 by_cases c1:k<1
 case pos =>
  have HNO:=Lib.hid (HBAD.out (.inl c1))
  clear HBAD HREP
  go_enter Tryz.func46,Tryz.ntmps46
  go_wp2_with (first
   | (go_at_call 78;((with_reducible refine (HCP.out _).mono ?_);rintro e w9 ⟨rfl,hw9⟩;subst w9))
   | (go_at_call 45;((with_reducible refine (HCU.out _ (by repeat (first|exact zr _|assumption|refine za ?_ _|refine zd ?_|refine zn ?_ _|refine zt ?_ (by assumption)))).mono ?_);rintro e w1 ⟨f1,rfl,hq1⟩))
   | (go_at_call 79;first
    | ((with_reducible refine (HN1.out _ (by repeat (first|exact zr _|assumption|refine za ?_ _|refine zd ?_|refine zn ?_ _|refine zt ?_ (by assumption)))).mono ?_);rintro e w2 ⟨rfl,hq2⟩)
    | (((with_reducible refine (HN2.out _ (by repeat (first|exact zr _|assumption|refine za ?_ _|refine zd ?_|refine zn ?_ _|refine zt ?_ (by assumption)))).mono ?_);rintro e w3 ⟨rfl,hq3⟩))))
  go_ret2
  exact AddR.no HNO.out (HX.out.trans (by repeat (first|exact zr _|assumption|refine za ?_ _|refine zd ?_|refine zn ?_ _|refine zt ?_ (by assumption))))
 by_cases c2:2<k
 case pos =>
  have HNO:=Lib.hid (HBAD.out (.inr (.inl c2)))
  clear HBAD HREP
  go_enter Tryz.func46,Tryz.ntmps46
  go_wp2_with (first
   | (go_at_call 78;((with_reducible refine (HCP.out _).mono ?_);rintro e w9 ⟨rfl,hw9⟩;subst w9))
   | (go_at_call 45;((with_reducible refine (HCU.out _ (by repeat (first|exact zr _|assumption|refine za ?_ _|refine zd ?_|refine zn ?_ _|refine zt ?_ (by assumption)))).mono ?_);rintro e w1 ⟨f1,rfl,hq1⟩))
   | (go_at_call 79;first
    | ((with_reducible refine (HN1.out _ (by repeat (first|exact zr _|assumption|refine za ?_ _|refine zd ?_|refine zn ?_ _|refine zt ?_ (by assumption)))).mono ?_);rintro e w2 ⟨rfl,hq2⟩)
    | (((with_reducible refine (HN2.out _ (by repeat (first|exact zr _|assumption|refine za ?_ _|refine zd ?_|refine zn ?_ _|refine zt ?_ (by assumption)))).mono ?_);rintro e w3 ⟨rfl,hq3⟩))))
  go_ret2
  exact AddR.no HNO.out (HX.out.trans (by repeat (first|exact zr _|assumption|refine za ?_ _|refine zd ?_|refine zn ?_ _|refine zt ?_ (by assumption))))
 by_cases c3:(n:Int)<k
 case pos =>
  have HNO:=Lib.hid (HBAD.out (.inr (.inr (.inl c3))))
  clear HBAD HREP
  go_enter Tryz.func46,Tryz.ntmps46
  go_wp2_with (first
   | (go_at_call 78;((with_reducible refine (HCP.out _).mono ?_);rintro e w9 ⟨rfl,hw9⟩;subst w9))
   | (go_at_call 45;((with_reducible refine (HCU.out _ (by repeat (first|exact zr _|assumption|refine za ?_ _|refine zd ?_|refine zn ?_ _|refine zt ?_ (by assumption)))).mono ?_);rintro e w1 ⟨f1,rfl,hq1⟩))
   | (go_at_call 79;first
    | ((with_reducible refine (HN1.out _ (by repeat (first|exact zr _|assumption|refine za ?_ _|refine zd ?_|refine zn ?_ _|refine zt ?_ (by assumption)))).mono ?_);rintro e w2 ⟨rfl,hq2⟩)
    | (((with_reducible refine (HN2.out _ (by repeat (first|exact zr _|assumption|refine za ?_ _|refine zd ?_|refine zn ?_ _|refine zt ?_ (by assumption)))).mono ?_);rintro e w3 ⟨rfl,hq3⟩))))
  go_ret2
  exact AddR.no HNO.out (HX.out.trans (by repeat (first|exact zr _|assumption|refine za ?_ _|refine zd ?_|refine zn ?_ _|refine zt ?_ (by assumption))))
 by_cases c4:m<1
 case pos =>
  have HNO:=Lib.hid (HBAD.out (.inr (.inr (.inr (.inl c4)))))
  clear HBAD HREP
  go_enter Tryz.func46,Tryz.ntmps46
  go_wp2_with (first
   | (go_at_call 78;((with_reducible refine (HCP.out _).mono ?_);rintro e w9 ⟨rfl,hw9⟩;subst w9))
   | (go_at_call 45;((with_reducible refine (HCU.out _ (by repeat (first|exact zr _|assumption|refine za ?_ _|refine zd ?_|refine zn ?_ _|refine zt ?_ (by assumption)))).mono ?_);rintro e w1 ⟨f1,rfl,hq1⟩))
   | (go_at_call 79;first
    | ((with_reducible refine (HN1.out _ (by repeat (first|exact zr _|assumption|refine za ?_ _|refine zd ?_|refine zn ?_ _|refine zt ?_ (by assumption)))).mono ?_);rintro e w2 ⟨rfl,hq2⟩)
    | (((with_reducible refine (HN2.out _ (by repeat (first|exact zr _|assumption|refine za ?_ _|refine zd ?_|refine zn ?_ _|refine zt ?_ (by assumption)))).mono ?_);rintro e w3 ⟨rfl,hq3⟩))))
  go_ret2
  exact AddR.no HNO.out (HX.out.trans (by repeat (first|exact zr _|assumption|refine za ?_ _|refine zd ?_|refine zn ?_ _|refine zt ?_ (by assumption))))
 by_cases c5:100<m
 case pos =>
  have HNO:=Lib.hid (HBAD.out (.inr (.inr (.inr (.inr c5)))))
  clear HBAD HREP
  go_enter Tryz.func46,Tryz.ntmps46
  go_wp2_with (first
   | (go_at_call 78;((with_reducible refine (HCP.out _).mono ?_);rintro e w9 ⟨rfl,hw9⟩;subst w9))
   | (go_at_call 45;((with_reducible refine (HCU.out _ (by repeat (first|exact zr _|assumption|refine za ?_ _|refine zd ?_|refine zn ?_ _|refine zt ?_ (by assumption)))).mono ?_);rintro e w1 ⟨f1,rfl,hq1⟩))
   | (go_at_call 79;first
    | ((with_reducible refine (HN1.out _ (by repeat (first|exact zr _|assumption|refine za ?_ _|refine zd ?_|refine zn ?_ _|refine zt ?_ (by assumption)))).mono ?_);rintro e w2 ⟨rfl,hq2⟩)
    | (((with_reducible refine (HN2.out _ (by repeat (first|exact zr _|assumption|refine za ?_ _|refine zd ?_|refine zn ?_ _|refine zt ?_ (by assumption)))).mono ?_);rintro e w3 ⟨rfl,hq3⟩))))
  go_ret2
  exact AddR.no HNO.out (HX.out.trans (by repeat (first|exact zr _|assumption|refine za ?_ _|refine zd ?_|refine zn ?_ _|refine zt ?_ (by assumption))))
 obtain ⟨k,rfl⟩:∃j:Nat,k=(j:Int):=⟨k.toNat,by omega⟩
 obtain ⟨m,rfl⟩:∃j:Nat,m=(j:Int):=⟨m.toNat,by omega⟩
 have hrep:=HREP.out k m HK.out HM.out (by rw [HLN.out];omega)
 rw [HLN.out] at hrep
 have hkm:k*m≤200:=Nat.mul_le_mul (show k≤2 by omega) (show m≤100 by omega)
 obtain ⟨N,hN⟩:∃N,k*m=N:=⟨_,rfl⟩
 rw [hN] at hkm hrep
 have eN:(k:Int)*(m:Int)=(N:Int):=by rw [←hN,Int.natCast_mul]
 have HRP:=Lib.hid hrep
 have HKK:=Lib.hid (show 1≤k∧k≤n by omega)
 clear hrep hN HBAD HREP HK HM
 go_enter Tryz.func46,Tryz.ntmps46
 go_wp2_with (first
  | (go_at_call 78;((with_reducible refine (HCP.out _).mono ?_);rintro e w9 ⟨rfl,hw9⟩;subst w9))
  | (go_at_call 45;((with_reducible refine (HCU.out _ (by repeat (first|exact zr _|assumption|refine za ?_ _|refine zd ?_|refine zn ?_ _|refine zt ?_ (by assumption)))).mono ?_);rintro e w1 ⟨f1,rfl,hq1⟩))
  | (go_at_call 79;first
   | ((with_reducible refine (HN1.out _ (by repeat (first|exact zr _|assumption|refine za ?_ _|refine zd ?_|refine zn ?_ _|refine zt ?_ (by assumption)))).mono ?_);rintro e w2 ⟨rfl,hq2⟩)
   | (((with_reducible refine (HN2.out _ (by repeat (first|exact zr _|assumption|refine za ?_ _|refine zd ?_|refine zn ?_ _|refine zt ?_ (by assumption)))).mono ?_);rintro e w3 ⟨rfl,hq3⟩))))
 have HE3:=Lib.hid (show Ext w w3 by repeat (first|exact zr _|assumption|refine za ?_ _|refine zd ?_|refine zn ?_ _|refine zt ?_ (by assumption)))
 have b1:decide ((k:Int)<1)=false:=decide_eq_false (by omega)
 have b2:decide ((2:Int)<(k:Int))=false:=decide_eq_false (by omega)
 have b3:decide (n<k)=false:=decide_eq_false (by omega)
 have b4:decide ((m:Int)<1)=false:=decide_eq_false (by omega)
 have b5:decide ((100:Int)<(m:Int))=false:=decide_eq_false (by omega)
 simp only [b1,b2,b3,b4,b5,Bool.or_false]
 clear b1 b2 b3 b4 b5
 go_loopw [0,58] (fun u i wr=>∃(j p q:Nat) (A':Option Addr) (acc':List Ro),u = .slice A' p q∧i = .int .i64 (j:Int)∧j≤N∧Hid (p=n+j)∧Hid (OwnQ wr W.heap.size 75 (.slice A' p q) p acc'∧Ext W wr∧copies k N acc=copies k (N-j) acc')) (fun _ i _=>N-(intOf i).toNat)
 case atStart=>exact ⟨0,n,c,A,acc,rfl,rfl,Nat.zero_le _,Lib.hid rfl,Lib.hid ⟨HO.out.ext HE3.out,HX.out.trans HE3.out,rfl⟩⟩
 case round =>
  obtain ⟨j,p,q,A',acc',rfl,rfl,hj,hp,HH⟩:=hrel
  obtain ⟨wa,rfl⟩:∃wa:World,wa=wr:=⟨_,rfl⟩
  have hpb:p≤300:=by have:=hp.out;omega
  have hpk:k≤p:=by have:=hp.out;have:=HKK.out;omega
  by_cases hlt:j<N
  ·have q1:(j:Int)<(N:Int):=by omega
   have hkk:=HKK.out
   obtain ⟨b0,off0,x,rfl,hb0,d0,d1,hro,hxc⟩:=HH.out.1.row (j:=p-k) (by omega)
   have e1:(p:Int)-(k:Int)=((p-k:Nat):Int):=by omega
   have e2:((p:Int)-(k:Int)).toNat=p-k:=by omega
   have i1:=IntWalk.i64_in ((p:Int)-(k:Int)) (by omega)
   have i2:=IntWalk.i64_in ((j:Int)+1) (by omega)
   have z0:(0:Int)≤(p:Int)-(k:Int):=by omega
   have z1:(p:Int)-(k:Int)<(p:Int):=by omega
   have z2:(0:Int)≤(j:Int):=by omega
   have hl2:=HH.out.1.len
   have HCO:=Lib.hid (show copies k N acc=copies k (N-(j+1)) (acc'++[acc'.getD (p-k) ro0]) by
    rw [HH.out.2.2,show N-j=N-(j+1)+1 by omega,copies,hl2])
   obtain ⟨xb,xA,xn,xc⟩:=x
   simp only at d0 d1 hxc
   have HRO:=Lib.hid hro
   clear hro e1
   go_wp2_with (first
    | (at_builtin;(refine zap (w:=W) (t:=acc') (r:=[acc'.getD (p-k) ro0]) (ys:=[⟨xb,xA,xn,xc⟩]) 22 75 (.agg #[.bool false,.slice none 0 0]) 32 (by rfl) (by rfl) Tryz.underlying22 zbq (by rfl) (by omega) (by rfl) (by rfl) (HH.out.1.ext (by repeat (first|exact zr _|assumption|refine za ?_ _|refine zd ?_|refine zn ?_ _|refine zt ?_ (by assumption)))) (HH.out.2.1.trans (by repeat (first|exact zr _|assumption|refine za ?_ _|refine zd ?_|refine zn ?_ _|refine zt ?_ (by assumption)))) (Vec.lit2 (w:=wa) (by rfl) (by rfl) (by rfl)) (zbw (HRO.out.keep (Below.size (show Ext wa _ by repeat (first|exact zr _|assumption|refine za ?_ _|refine zd ?_|refine zn ?_ _|refine zt ?_ (by assumption)))) (fun b hb hk=>⟨hk,fun o=>Below.cell (p:=⟨b,o,none⟩) (show Ext wa _ by repeat (first|exact zr _|assumption|refine za ?_ _|refine zd ?_|refine zn ?_ _|refine zt ?_ (by assumption))) hb⟩))) (fun y hy=>by simp at hy;subst hy;exact hxc) (by omega) ?_;intro v' w6 hown6 hext6;obtain ⟨A6,c6,rfl, -⟩:=zbb hown6 (by omega);have HO6:=Lib.hid hown6;clear hown6)))
   go_roundw
   case rel=>exact ⟨j+1,p+1,c6,A6,acc'++[acc'.getD (p-k) ro0],by go_num,by go_num,by omega,Lib.hid (by have:=hp.out;omega),Lib.hid ⟨HO6.out,hext6.out,HCO.out⟩⟩
   case measure=>simp [intOf] <;> omega
  ·obtain rfl:N=j:=by omega
   have hco:=HH.out.2.2
   rw [Nat.sub_self] at hco
   have HCO:=Lib.hid (show copies k N acc=acc' from hco)
   have q1:¬((N:Int)<(N:Int)):=by omega
   have hl2:=HH.out.1.len
   clear hco
   by_cases h100:n+N≤100
   ·have HYE:=Lib.hid (show addP atoiO acc s=some acc' by rw [HRP.out,if_pos h100,HCO.out])
    have q2:(p:Int)≤100:=by have:=hp.out;omega
    go_wp2_with fail
    go_ret2
    exact AddR.yes HYE.out hl2 HH.out.2.1 HH.out.1
   ·have HNO:=Lib.hid (show addP atoiO acc s=none by rw [HRP.out,if_neg h100])
    have q2:¬((p:Int)≤100):=by have:=hp.out;omega
    go_wp2_with fail
    go_ret2
    exact AddR.nob (by first | rfl | exact decide_eq_false (by omega)) HNO.out HH.out.2.1
set_option maxHeartbeats 8000000 in
theorem ziA (W w:World) (A:Option Addr) (n c:Nat) (acc:List Ro) (s:List UInt8) (hx:Ext W w) (ho:OwnQ w W.heap.size 75 (.slice A n c) n acc) (hn:n≤100) (hs:s.length≤100000) (hg:Glob w) (ha:¬s.take 6=agnB) :
  Calls Tryz.prog 46 #[.slice A n c,.string ⟨s.toArray⟩] w (AddR W acc s):=by
 have HX:=Lib.hid hx
 have HO:=Lib.hid ho
 have HG:=Lib.hid hg
 have hlen:=ho.len
 have HLN:=Lib.hid hlen
 have HCP:=Lib.hid (fun (w':World)=>zdA s w')
 rw [if_neg ha,decide_eq_false ha] at HCP
 have HCU:=Lib.hid (fun (w':World) (h:Ext w w')=>zd2 32 s (by omega) w' (hg.ext h))
 obtain ⟨hal,hbl⟩:=zdP 32 s
 have hno:=fun (sd:List UInt8)=>zk4 (acc:=acc) (s:=s) (sd:=sd) ha
 have hpa:=fun (sd r:List UInt8) (bk:Bool)=>zlM (acc:=acc) (s:=s) (sd:=sd) (r:=r) (bk:=bk) ha
 obtain ⟨sd,hsd⟩:∃a,(cutA 32 s).1=a:=⟨_,rfl⟩
 obtain ⟨r,hr⟩:∃b,(cutA 32 s).2=b:=⟨_,rfl⟩
 rw [hsd,hr] at HCU
 rw [hr] at hbl
 have hno:=hno sd hsd
 have hpa:=hpa sd r
 have HPR:=Lib.hid (fun (w':World) (h:Ext w w')=>zk9 r (by omega) trivial w' (hg.ext h))
 have HSD:=Lib.hid hsd
 have HR:=Lib.hid hr
 clear hx ho hg hs ha hsd hr hal hlen
 obtain ⟨bk,hbk⟩:∃bk,(sd==[98,97,99,107])=bk:=⟨_,rfl⟩
 have hpa:=hpa bk HSD.out HR.out
 by_cases hf:(sd==[102,114,111,110,116])=false∧bk=false
 ·obtain ⟨h1,rfl⟩:=hf
  have h1':(sd != [102,114,111,110,116])=true:=by simpa using h1
  have hbk':(sd != [98,97,99,107])=true:=by simpa using hbk
  have HNO:=Lib.hid (hno h1 hbk)
  clear hno hpa
  go_enter Tryz.func46,Tryz.ntmps46
  go_wp2_with (first
   | (go_at_call 78;((with_reducible refine (HCP.out _).mono ?_);rintro e w9 ⟨rfl,hw9⟩;subst w9))
   | (go_at_call 45;((with_reducible refine (HCU.out _ (by repeat (first|exact zr _|assumption|refine za ?_ _|refine zd ?_|refine zn ?_ _|refine zt ?_ (by assumption)))).mono ?_);rintro e w1 ⟨f1,rfl,hq1⟩)))
  go_ret2
  exact AddR.no HNO.out (HX.out.trans (by repeat (first|exact zr _|assumption|refine za ?_ _|refine zd ?_|refine zn ?_ _|refine zt ?_ (by assumption))))
 ·have hor:(sd==[102,114,111,110,116])=true∨bk=true:=by
   cases hq:(sd==[102,114,111,110,116]) with
   | true=>exact .inl rfl
   | false =>
    cases hb:bk with
    | true=>exact .inr rfl
    | false=>exact absurd ⟨hq,hb⟩ hf
  have hpa:=hpa hor hbk
  have hcc:((sd==[102,114,111,110,116])=true∧bk=false)∨((sd==[102,114,111,110,116])=false∧bk=true):=by
   cases hq:(sd==[102,114,111,110,116]) with
   | true =>
    left
    refine ⟨rfl,?_⟩
    have h9:sd=[102,114,111,110,116]:=by simpa using hq
    rw [←hbk,h9]
    rfl
   | false =>
    right
    refine ⟨rfl,?_⟩
    rcases hor with h | h
    ·rw [hq] at h;cases h
    ·exact h
  clear hno hor hf
  cases hp:parseT atoiO r with
  | none =>
   rw [hp] at hpa
   have HNO:=Lib.hid hpa
   have HP1:=Lib.hid (show ∀(w':World),Ext w w'→Calls Tryz.prog 80 #[.string ⟨r.toArray⟩] w' fun e w''=>e = .returned (.tuple #[.slice none 0 0,.int .i64 12])∧Ext w' w'' from fun w' h=>by
    refine (HPR.out w' h).mono ?_
    rintro e w9 ⟨v,x,rfl,hb,⟨_,rfl,rfl⟩ | ⟨t,h2,_⟩⟩
    ·exact ⟨rfl,hb⟩
    ·rw [hp] at h2;cases h2)
   clear hpa hp HPR
   rcases hcc with ⟨h1,rfl⟩ | ⟨h1,rfl⟩ <;>
   ·have h1':(sd != [102,114,111,110,116]) = !(sd==[102,114,111,110,116]):=rfl
    rw [h1] at h1'
    have hbk':(sd != [98,97,99,107]) = !(sd==[98,97,99,107]):=rfl
    rw [hbk] at hbk'
    simp only [Bool.not_true,Bool.not_false] at h1' hbk'
    go_enter Tryz.func46,Tryz.ntmps46
    go_wp2_with (first
     | (go_at_call 78;((with_reducible refine (HCP.out _).mono ?_);rintro e w9 ⟨rfl,hw9⟩;subst w9))
     | (go_at_call 45;((with_reducible refine (HCU.out _ (by repeat (first|exact zr _|assumption|refine za ?_ _|refine zd ?_|refine zn ?_ _|refine zt ?_ (by assumption)))).mono ?_);rintro e w1 ⟨f1,rfl,hq1⟩))
     | (go_at_call 80;((with_reducible refine (HP1.out _ (by repeat (first|exact zr _|assumption|refine za ?_ _|refine zd ?_|refine zn ?_ _|refine zt ?_ (by assumption)))).mono ?_);rintro e w2 ⟨rfl,hq2⟩)))
    go_ret2
    exact AddR.no HNO.out (HX.out.trans (by repeat (first|exact zr _|assumption|refine za ?_ _|refine zd ?_|refine zn ?_ _|refine zt ?_ (by assumption))))
  | some t =>
   rw [hp] at hpa
   simp only at hpa
   obtain ⟨g1,g2,g3⟩:=(zaT zgD).1 hp
   obtain ⟨g4,g5,g6⟩:=zaG g2
   have g7:=zav t
   have gcl:=(zgH g2).2.2.2
   have gby:Bytes t.cells:=zb4 (zdR g6)
   have HP1:=Lib.hid (show ∀(w':World),Ext w w'→Calls Tryz.prog 80 #[.string ⟨r.toArray⟩] w' fun e w''=>∃(A1:Option Addr) (c1:Nat),e = .returned (.tuple #[.slice A1 t.cnt c1,.int .i64 0])∧Ext w' w''∧Tv w'' A1 t.cnt t from fun w' h=>by
    refine (HPR.out w' h).mono ?_
    rintro e w9 ⟨v,x,rfl,hb,⟨h2,_,_⟩ | ⟨t2,h2,rfl,ho⟩⟩
    ·rw [hp] at h2;cases h2
    ·rw [hp] at h2
     cases h2
     obtain ⟨A1,c1,rfl,hv⟩:=zaD ho (by omega)
     exact ⟨A1,c1,rfl,hb,hv.tv⟩)
   have HEX:=Lib.hid (show ∀(A1:Option Addr) (c1:Nat) (w':World),Tv w' A1 t.cnt t→Calls Tryz.prog 81 #[.slice A1 t.cnt c1] w' fun e w''=>∃(A2:Option Addr) (n2 c2:Nat),e = .returned (.tuple #[.slice A2 n2 c2,.int .i64 0])∧Ext w' w''∧Vec shSt w'' A2 n2 t.cells∧(0<n2→∀b off,A2=some ⟨b,off,none⟩→w'.heap.size≤b)∧n2≤c2 from fun A1 c1 w' h=>by
    refine (zk1 t (by omega) A1 t.cnt c1 w' h).mono ?_
    rintro e w9 ⟨A2,n2,c2,rfl,h1,h2,h3,h4⟩
    rw [if_pos g2] at h2
    rw [g2]
    exact ⟨A2,n2,c2,rfl,h1,h2,h3,h4⟩)
   clear hp HPR g1 g3 g4 g5 g6 g7
   have HBY:=Lib.hid gby
   clear gby
   by_cases h100:n<100
   ·have p1:(n:Int)<100:=by omega
    have HYE:=Lib.hid (show addP atoiO acc s=some (acc++[⟨bk,t.cells⟩]) by rw [hpa,if_pos (by rw [HLN.out];exact h100)])
    clear hpa
    rcases hcc with ⟨h1,rfl⟩ | ⟨h1,rfl⟩
    ·have h1':(sd != [102,114,111,110,116]) = !(sd==[102,114,111,110,116]):=rfl
     rw [h1] at h1'
     have hbk':(sd != [98,97,99,107]) = !(sd==[98,97,99,107]):=rfl
     rw [hbk] at hbk'
     simp only [Bool.not_true,Bool.not_false] at h1' hbk'
     go_enter Tryz.func46,Tryz.ntmps46
     go_wp2_with (first
      | (go_at_call 78;((with_reducible refine (HCP.out _).mono ?_);rintro e w9 ⟨rfl,hw9⟩;subst w9))
      | (go_at_call 45;((with_reducible refine (HCU.out _ (by repeat (first|exact zr _|assumption|refine za ?_ _|refine zd ?_|refine zn ?_ _|refine zt ?_ (by assumption)))).mono ?_);rintro e w1 ⟨f1,rfl,hq1⟩))
      | (go_at_call 80;((with_reducible refine (HP1.out _ (by repeat (first|exact zr _|assumption|refine za ?_ _|refine zd ?_|refine zn ?_ _|refine zt ?_ (by assumption)))).mono ?_);rintro e w2 ⟨A1,c1,rfl,hq2,hv2⟩;have HV2:=Lib.hid hv2;clear hv2))
      | (go_at_call 81;((with_reducible refine (HEX.out _ _ _ (HV2.out.ext (by repeat (first|exact zr _|assumption|refine za ?_ _|refine zd ?_|refine zn ?_ _|refine zt ?_ (by assumption))))).mono ?_);rintro e w3 ⟨A2,n2,c2,rfl,hq3,hv3,hb3,hc3⟩;have HV3:=Lib.hid hv3;have HB3:=Lib.hid (show 0<n2→∀b off,A2=some ⟨b,off,none⟩→w.heap.size≤b from fun h b off e=>Nat.le_trans (Below.size (show Ext w _ by repeat (first|exact zr _|assumption|refine za ?_ _|refine zd ?_|refine zn ?_ _|refine zt ?_ (by assumption)))) (hb3 h b off e));have HN3:=Lib.hid (show n2≤maxLen by rw [←hv3.1];unfold maxLen;omega);clear hv3 hb3))
      | (at_builtin;(refine zap (w:=W) (t:=acc) (r:=[⟨false,t.cells⟩]) (ys:=[⟨false,A2,n2,c2⟩]) 22 75 (.agg #[.bool false,.slice none 0 0]) 32 (by rfl) (by rfl) Tryz.underlying22 zbq (by rfl) (by omega) (by rfl) (by rfl) (HO.out.ext (by repeat (first|exact zr _|assumption|refine za ?_ _|refine zd ?_|refine zn ?_ _|refine zt ?_ (by assumption)))) (HX.out.trans (by repeat (first|exact zr _|assumption|refine za ?_ _|refine zd ?_|refine zn ?_ _|refine zt ?_ (by assumption)))) (Vec.lit2 (w:=w3) (by rfl) (by rfl) (by rfl)) (zbw (show RoAt _ (Kq W.heap.size (.slice A n c)) ⟨false,A2,n2,c2⟩ ⟨false,t.cells⟩ from ⟨rfl,HV3.out.ext (by repeat (first|exact zr _|assumption|refine za ?_ _|refine zd ?_|refine zn ?_ _|refine zt ?_ (by assumption))),HN3.out,HBY.out,fun h b off e=>⟨Nat.le_trans (Below.size HX.out) (HB3.out h b off e),fun e8=>by have h7:=(HO.out.blk b e8.symm).2;have h6:=HB3.out h b off e;omega⟩⟩)) (fun y hy=>by simp at hy;subst hy;exact hc3) (by omega) ?_;intro v' w6 hown6 hext6;obtain ⟨A6,c6,rfl, -⟩:=zbb hown6 (by omega);have HO6:=Lib.hid hown6;have HX6:=Lib.hid hext6.out;clear hown6)))
     go_ret2
     exact AddR.yes HYE.out (by rw [List.length_append,HLN.out];rfl) HX6.out HO6.out
    ·have h1':(sd != [102,114,111,110,116]) = !(sd==[102,114,111,110,116]):=rfl
     rw [h1] at h1'
     have hbk':(sd != [98,97,99,107]) = !(sd==[98,97,99,107]):=rfl
     rw [hbk] at hbk'
     simp only [Bool.not_true,Bool.not_false] at h1' hbk'
     go_enter Tryz.func46,Tryz.ntmps46
     go_wp2_with (first
      | (go_at_call 78;((with_reducible refine (HCP.out _).mono ?_);rintro e w9 ⟨rfl,hw9⟩;subst w9))
      | (go_at_call 45;((with_reducible refine (HCU.out _ (by repeat (first|exact zr _|assumption|refine za ?_ _|refine zd ?_|refine zn ?_ _|refine zt ?_ (by assumption)))).mono ?_);rintro e w1 ⟨f1,rfl,hq1⟩))
      | (go_at_call 80;((with_reducible refine (HP1.out _ (by repeat (first|exact zr _|assumption|refine za ?_ _|refine zd ?_|refine zn ?_ _|refine zt ?_ (by assumption)))).mono ?_);rintro e w2 ⟨A1,c1,rfl,hq2,hv2⟩;have HV2:=Lib.hid hv2;clear hv2))
      | (go_at_call 81;((with_reducible refine (HEX.out _ _ _ (HV2.out.ext (by repeat (first|exact zr _|assumption|refine za ?_ _|refine zd ?_|refine zn ?_ _|refine zt ?_ (by assumption))))).mono ?_);rintro e w3 ⟨A2,n2,c2,rfl,hq3,hv3,hb3,hc3⟩;have HV3:=Lib.hid hv3;have HB3:=Lib.hid (show 0<n2→∀b off,A2=some ⟨b,off,none⟩→w.heap.size≤b from fun h b off e=>Nat.le_trans (Below.size (show Ext w _ by repeat (first|exact zr _|assumption|refine za ?_ _|refine zd ?_|refine zn ?_ _|refine zt ?_ (by assumption)))) (hb3 h b off e));have HN3:=Lib.hid (show n2≤maxLen by rw [←hv3.1];unfold maxLen;omega);clear hv3 hb3))
      | (at_builtin;(refine zap (w:=W) (t:=acc) (r:=[⟨true,t.cells⟩]) (ys:=[⟨true,A2,n2,c2⟩]) 22 75 (.agg #[.bool false,.slice none 0 0]) 32 (by rfl) (by rfl) Tryz.underlying22 zbq (by rfl) (by omega) (by rfl) (by rfl) (HO.out.ext (by repeat (first|exact zr _|assumption|refine za ?_ _|refine zd ?_|refine zn ?_ _|refine zt ?_ (by assumption)))) (HX.out.trans (by repeat (first|exact zr _|assumption|refine za ?_ _|refine zd ?_|refine zn ?_ _|refine zt ?_ (by assumption)))) (Vec.lit2 (w:=w3) (by rfl) (by rfl) (by rfl)) (zbw (show RoAt _ (Kq W.heap.size (.slice A n c)) ⟨true,A2,n2,c2⟩ ⟨true,t.cells⟩ from ⟨rfl,HV3.out.ext (by repeat (first|exact zr _|assumption|refine za ?_ _|refine zd ?_|refine zn ?_ _|refine zt ?_ (by assumption))),HN3.out,HBY.out,fun h b off e=>⟨Nat.le_trans (Below.size HX.out) (HB3.out h b off e),fun e8=>by have h7:=(HO.out.blk b e8.symm).2;have h6:=HB3.out h b off e;omega⟩⟩)) (fun y hy=>by simp at hy;subst hy;exact hc3) (by omega) ?_;intro v' w6 hown6 hext6;obtain ⟨A6,c6,rfl, -⟩:=zbb hown6 (by omega);have HO6:=Lib.hid hown6;have HX6:=Lib.hid hext6.out;clear hown6)))
     go_ret2
     exact AddR.yes HYE.out (by rw [List.length_append,HLN.out];rfl) HX6.out HO6.out
   ·have p1:¬((n:Int)<100):=by omega
    have HNO:=Lib.hid (show addP atoiO acc s=none by rw [hpa,if_neg (by rw [HLN.out];exact h100)])
    clear hpa
    rcases hcc with ⟨h1,rfl⟩ | ⟨h1,rfl⟩
    ·have h1':(sd != [102,114,111,110,116]) = !(sd==[102,114,111,110,116]):=rfl
     rw [h1] at h1'
     have hbk':(sd != [98,97,99,107]) = !(sd==[98,97,99,107]):=rfl
     rw [hbk] at hbk'
     simp only [Bool.not_true,Bool.not_false] at h1' hbk'
     go_enter Tryz.func46,Tryz.ntmps46
     go_wp2_with (first
      | (go_at_call 78;((with_reducible refine (HCP.out _).mono ?_);rintro e w9 ⟨rfl,hw9⟩;subst w9))
      | (go_at_call 45;((with_reducible refine (HCU.out _ (by repeat (first|exact zr _|assumption|refine za ?_ _|refine zd ?_|refine zn ?_ _|refine zt ?_ (by assumption)))).mono ?_);rintro e w1 ⟨f1,rfl,hq1⟩))
      | (go_at_call 80;((with_reducible refine (HP1.out _ (by repeat (first|exact zr _|assumption|refine za ?_ _|refine zd ?_|refine zn ?_ _|refine zt ?_ (by assumption)))).mono ?_);rintro e w2 ⟨A1,c1,rfl,hq2,hv2⟩;have HV2:=Lib.hid hv2;clear hv2))
      | (go_at_call 81;((with_reducible refine (HEX.out _ _ _ (HV2.out.ext (by repeat (first|exact zr _|assumption|refine za ?_ _|refine zd ?_|refine zn ?_ _|refine zt ?_ (by assumption))))).mono ?_);rintro e w3 ⟨A2,n2,c2,rfl,hq3,hv3,hb3,hc3⟩;have HV3:=Lib.hid hv3;have HB3:=Lib.hid (show 0<n2→∀b off,A2=some ⟨b,off,none⟩→w.heap.size≤b from fun h b off e=>Nat.le_trans (Below.size (show Ext w _ by repeat (first|exact zr _|assumption|refine za ?_ _|refine zd ?_|refine zn ?_ _|refine zt ?_ (by assumption)))) (hb3 h b off e));have HN3:=Lib.hid (show n2≤maxLen by rw [←hv3.1];unfold maxLen;omega);clear hv3 hb3))
      | (at_builtin;(refine zap (w:=W) (t:=acc) (r:=[⟨false,t.cells⟩]) (ys:=[⟨false,A2,n2,c2⟩]) 22 75 (.agg #[.bool false,.slice none 0 0]) 32 (by rfl) (by rfl) Tryz.underlying22 zbq (by rfl) (by omega) (by rfl) (by rfl) (HO.out.ext (by repeat (first|exact zr _|assumption|refine za ?_ _|refine zd ?_|refine zn ?_ _|refine zt ?_ (by assumption)))) (HX.out.trans (by repeat (first|exact zr _|assumption|refine za ?_ _|refine zd ?_|refine zn ?_ _|refine zt ?_ (by assumption)))) (Vec.lit2 (w:=w3) (by rfl) (by rfl) (by rfl)) (zbw (show RoAt _ (Kq W.heap.size (.slice A n c)) ⟨false,A2,n2,c2⟩ ⟨false,t.cells⟩ from ⟨rfl,HV3.out.ext (by repeat (first|exact zr _|assumption|refine za ?_ _|refine zd ?_|refine zn ?_ _|refine zt ?_ (by assumption))),HN3.out,HBY.out,fun h b off e=>⟨Nat.le_trans (Below.size HX.out) (HB3.out h b off e),fun e8=>by have h7:=(HO.out.blk b e8.symm).2;have h6:=HB3.out h b off e;omega⟩⟩)) (fun y hy=>by simp at hy;subst hy;exact hc3) (by omega) ?_;intro v' w6 hown6 hext6;obtain ⟨A6,c6,rfl, -⟩:=zbb hown6 (by omega);have HO6:=Lib.hid hown6;have HX6:=Lib.hid hext6.out;clear hown6)))
     go_ret2
     exact AddR.nob (by first | rfl | exact decide_eq_false (by omega)) HNO.out HX6.out
    ·have h1':(sd != [102,114,111,110,116]) = !(sd==[102,114,111,110,116]):=rfl
     rw [h1] at h1'
     have hbk':(sd != [98,97,99,107]) = !(sd==[98,97,99,107]):=rfl
     rw [hbk] at hbk'
     simp only [Bool.not_true,Bool.not_false] at h1' hbk'
     go_enter Tryz.func46,Tryz.ntmps46
     go_wp2_with (first
      | (go_at_call 78;((with_reducible refine (HCP.out _).mono ?_);rintro e w9 ⟨rfl,hw9⟩;subst w9))
      | (go_at_call 45;((with_reducible refine (HCU.out _ (by repeat (first|exact zr _|assumption|refine za ?_ _|refine zd ?_|refine zn ?_ _|refine zt ?_ (by assumption)))).mono ?_);rintro e w1 ⟨f1,rfl,hq1⟩))
      | (go_at_call 80;((with_reducible refine (HP1.out _ (by repeat (first|exact zr _|assumption|refine za ?_ _|refine zd ?_|refine zn ?_ _|refine zt ?_ (by assumption)))).mono ?_);rintro e w2 ⟨A1,c1,rfl,hq2,hv2⟩;have HV2:=Lib.hid hv2;clear hv2))
      | (go_at_call 81;((with_reducible refine (HEX.out _ _ _ (HV2.out.ext (by repeat (first|exact zr _|assumption|refine za ?_ _|refine zd ?_|refine zn ?_ _|refine zt ?_ (by assumption))))).mono ?_);rintro e w3 ⟨A2,n2,c2,rfl,hq3,hv3,hb3,hc3⟩;have HV3:=Lib.hid hv3;have HB3:=Lib.hid (show 0<n2→∀b off,A2=some ⟨b,off,none⟩→w.heap.size≤b from fun h b off e=>Nat.le_trans (Below.size (show Ext w _ by repeat (first|exact zr _|assumption|refine za ?_ _|refine zd ?_|refine zn ?_ _|refine zt ?_ (by assumption)))) (hb3 h b off e));have HN3:=Lib.hid (show n2≤maxLen by rw [←hv3.1];unfold maxLen;omega);clear hv3 hb3))
      | (at_builtin;(refine zap (w:=W) (t:=acc) (r:=[⟨true,t.cells⟩]) (ys:=[⟨true,A2,n2,c2⟩]) 22 75 (.agg #[.bool false,.slice none 0 0]) 32 (by rfl) (by rfl) Tryz.underlying22 zbq (by rfl) (by omega) (by rfl) (by rfl) (HO.out.ext (by repeat (first|exact zr _|assumption|refine za ?_ _|refine zd ?_|refine zn ?_ _|refine zt ?_ (by assumption)))) (HX.out.trans (by repeat (first|exact zr _|assumption|refine za ?_ _|refine zd ?_|refine zn ?_ _|refine zt ?_ (by assumption)))) (Vec.lit2 (w:=w3) (by rfl) (by rfl) (by rfl)) (zbw (show RoAt _ (Kq W.heap.size (.slice A n c)) ⟨true,A2,n2,c2⟩ ⟨true,t.cells⟩ from ⟨rfl,HV3.out.ext (by repeat (first|exact zr _|assumption|refine za ?_ _|refine zd ?_|refine zn ?_ _|refine zt ?_ (by assumption))),HN3.out,HBY.out,fun h b off e=>⟨Nat.le_trans (Below.size HX.out) (HB3.out h b off e),fun e8=>by have h7:=(HO.out.blk b e8.symm).2;have h6:=HB3.out h b off e;omega⟩⟩)) (fun y hy=>by simp at hy;subst hy;exact hc3) (by omega) ?_;intro v' w6 hown6 hext6;obtain ⟨A6,c6,rfl, -⟩:=zbb hown6 (by omega);have HO6:=Lib.hid hown6;have HX6:=Lib.hid hext6.out;clear hown6)))
     go_ret2
     exact AddR.nob (by first | rfl | exact decide_eq_false (by omega)) HNO.out HX6.out
theorem zlh (W w:World) (A:Option Addr) (n c:Nat) (acc:List Ro) (s:List UInt8) (hx:Ext W w) (ho:OwnQ w W.heap.size 75 (.slice A n c) n acc) (hn:n≤100) (hs:s.length≤100000) (hg:Glob w) :
  Calls Tryz.prog 46 #[.slice A n c,.string ⟨s.toArray⟩] w (AddR W acc s):=by
 by_cases ha:s.take 6=agnB
 ·exact zh7 W w A n c acc s hx ho hn hs hg ha
 ·exact ziA W w A n c acc s hx ho hn hs hg ha
end Go.Proofs.YtkneghkbgingdaaGreatDoor
/- The reference's reader of terms,plain: what its steps do. -/
namespace Go.Proofs.YtkneghkbgingdaaGreatDoor
set_option maxRecDepth 100000
theorem zhI:∀a b c:Tms,(a.app b).app c=a.app (b.app c):=by
 intro a
 induction a with
 | nil=>intros;rfl
 | cons n c g r _ ih=>intro b c;simp only [Tms.app,ih]
theorem zkX:∀(t r:Tms),(t.app r).cnt=t.cnt+r.cnt:=by
 intro t r
 induction t with
 | nil=>simp [Tms.app,Tms.cnt]
 | cons n c g q _ ih=>simp only [Tms.app,Tms.cnt,ih];omega
theorem zg9:∀(s:List UInt8) (o:Int),(endP o s).1++(endP o s).2=s:=by
 intro s
 induction s with
 | nil=>intro o;rfl
 | cons x l ih =>
  intro o
  rw [endP]
  generalize o+(if x=40 then (1:Int) else 0)-(if x=41 then (1:Int) else 0)=q
  by_cases h:q<0∨(q=0∧x=32)
  ·rw [if_pos h]
   rfl
  ·rw [if_neg h]
   simp [ih]
theorem zef {s:List UInt8} {j:Nat} (h0:0<j) (hj:j≤s.length):s.take j=s.take (j-1)++[s.getD (j-1) 0]:=by
 obtain ⟨k,rfl⟩:∃k,j=k+1:=⟨j-1,by omega⟩
 rw [Nat.add_sub_cancel,List.take_add_one,List.getElem?_eq_getElem (by omega),List.getD_eq_getElem?_getD,List.getElem?_eq_getElem (by omega)]
 rfl
theorem zim {s:List UInt8} {j:Nat} (hj:j≤s.length) (hd:∀y∈s.drop j,isDg y=true) (h0:j=0∨isDg (s.getD (j-1) 0)=false):cutD s=(s.take j,s.drop j):=by
 by_cases hz:j=0
 ·subst hz
  rw [List.drop_zero] at hd
  have h1:s.reverse.takeWhile isDg=s.reverse:=by
   have h2:=List.takeWhile_append_of_pos (p:=isDg) (l₁:=s.reverse) (l₂:=[]) (by intro y hy;exact hd y (by simpa using hy))
   simpa using h2
  have h2:s.reverse.dropWhile isDg=[]:=by
   have h3:=List.dropWhile_append_of_pos (p:=isDg) (l₁:=s.reverse) (l₂:=[]) (by intro y hy;exact hd y (by simpa using hy))
   simpa using h3
  unfold cutD
  rw [h1,h2]
  simp
 ·have h1:isDg (s.getD (j-1) 0)=false:=by
   rcases h0 with h | h
   ·exact absurd h hz
   ·exact h
  have e2:=zef (s:=s) (j:=j) (by omega) hj
  have e:s=s.take (j-1)++s.getD (j-1) 0::s.drop j:=by
   have h3:=List.take_append_drop j s
   rw [e2,List.append_assoc] at h3
   exact h3.symm
  rw [e2]
  have h4:=zfF (a:=s.take (j-1)) (d:=s.drop j) (x:=s.getD (j-1) 0) h1 hd
  rw [←e] at h4
  exact h4
theorem zml {f d:Nat} {s:List UInt8} {j:Nat} (h0:0<j) (hj:j<s.length) (hd:∀y∈s.drop j,isDg y=true) (h42:s.getD (j-1) 0=42) :
  rlT (f+1) d s=match numS (s.drop j) with
   | none=>none
   | some n=>if n<2 then none else rlB f d (n:Int) (s.take (j-1)):=by
 have hc:=zim (by omega) hd (.inr (by rw [h42];decide))
 have e2:=zef (s:=s) (j:=j) h0 (by omega)
 rw [h42] at e2
 have hn:s.drop j≠[]:=by
  intro e
  have:=congrArg List.length e
  simp at this
  omega
 rw [rlT,hc,if_pos ⟨by rw [e2];simp,hn,by rw [e2];simp⟩]
 rw [show (s.take j,s.drop j).1.dropLast=s.take (j-1) from by rw [e2];simp]
 all_goals rfl
theorem znf {f d:Nat} {s:List UInt8} {j:Nat} (hj:j≤s.length) (hd:∀y∈s.drop j,isDg y=true) (h0:j=0∨isDg (s.getD (j-1) 0)=false) (h:j=0∨j=s.length∨s.getD (j-1) 0≠42) :
  rlT (f+1) d s=rlB f d 1 s:=by
 have hc:=zim hj hd h0
 rw [rlT,hc,if_neg]
 rintro ⟨k1,k2,k3⟩
 rcases h with rfl | rfl | h
 ·exact k1 rfl
 ·exact k2 (by simp)
 ·by_cases hz:j=0
  ·subst hz
   exact k1 rfl
  ·have e2:=zef (s:=s) (j:=j) (by omega) hj
   simp only at k3
   rw [e2] at k3
   simp at k3
   exact h (by simpa using k3)
theorem zkO (S:List UInt8):(S.drop 1).dropLast=(S.drop 1).take (S.length-1-1):=by
 rw [List.dropLast_eq_take,List.length_drop]
theorem zjr {S:List UInt8} (h:1<S.length) (x:UInt8):S.getLast?=some x↔S.getD (S.length-1) 0=x:=by
 rw [List.getLast?_eq_getElem?,List.getD_eq_getElem?_getD,List.getElem?_eq_getElem (by omega)]
 simp
def listP (f d:Nat) (s:List UInt8):Option Tms:=if s=[] then some .nil else rlL f d 0 s
theorem zlW {f d:Nat} {n:Int} {S:List UInt8} (h1:1<S.length) (h2:S.getD 0 0=40) (h3:S.getD (S.length-1) 0=41) (hd:0<d) :
  rlB (f+1) d n S=(listP f (d-1) ((S.drop 1).take (S.length-1-1))).bind fun g=>if g.cnt=0 then none else some (n,st0,g):=by
 rw [rlB,if_pos ⟨h1,h2,(zjr h1 41).2 h3,hd⟩,zkO,listP]
 by_cases h0:(S.drop 1).take (S.length-1-1)=[]
 ·rw [if_pos h0,if_pos h0]
  rfl
 ·rw [if_neg h0,if_neg h0]
  cases hq:rlL f (d-1) 0 ((S.drop 1).take (S.length-1-1)) with
  | none=>rfl
  | some g =>
   have hp:0<g.cnt:=by
    cases f with
    | zero=>rw [rlL] at hq;cases hq
    | succ f =>
     rw [rlL] at hq
     split at hq
     ·cases hq
     ·split at hq
      ·cases hq
      ·split at hq
       ·cases hq
        simp [Tms.cnt]
       ·split at hq
        ·obtain ⟨r,_,rfl⟩:=Option.map_eq_some_iff.1 hq
         simp [Tms.cnt]
        ·cases hq
   rw [Option.map_some,Option.bind_some,if_neg (by omega)]
theorem znh {f d:Nat} {n:Int} {S:List UInt8} (h:¬(1<S.length∧S.getD 0 0=40∧S.getD (S.length-1) 0=41∧0<d)) :
  rlB (f+1) d n S=match parseL S with
   | some [c]=>some (n,c,.nil)
   | _=>none:=by
 rw [rlB]
 refine (if_neg ?_).trans rfl
 rintro ⟨k1,k2,k3,k4⟩
 exact h ⟨k1,k2,(zjr k1 41).1 k3,k4⟩
def contL (F d:Nat) (done:Tms) (s:List UInt8):Option Tms:=(rlL F d done.cnt s).map fun r=>done.app r
theorem zhi {F d:Nat} {done:Tms} {s:List UInt8} (h:rlT F d (endP 0 s).1=none):contL (F+1) d done s=none:=by
 rw [contL,rlL,h]
 rfl
theorem zh4 {F d:Nat} {done:Tms} {s:List UInt8} (h:200<done.cnt):contL (F+1) d done s=none:=by
 rw [contL,rlL]
 split
 ·rfl
 ·rw [if_pos h]
  rfl
theorem zhV {F d:Nat} {done:Tms} {s:List UInt8} {n:Int} {c:St} {g:Tms} (h:rlT F d (endP 0 s).1=some (n,c,g)) (h2:¬200<done.cnt) (h3:(endP 0 s).2=[]):contL (F+1) d done s=some (done.app (.cons n c g .nil)):=by
 rw [contL,rlL,h]
 simp only
 rw [if_neg h2,h3]
 rfl
theorem ziD {F d:Nat} {done:Tms} {s:List UInt8} {x:UInt8} {s2:List UInt8} (h3:(endP 0 s).2=x::s2) (hx:x≠32):contL (F+1) d done s=none:=by
 rw [contL,rlL]
 split
 ·rfl
 ·split
  ·rfl
  ·rw [h3]
   simp only
   rw [if_neg hx]
   rfl
theorem zia {F d:Nat} {done:Tms} {s:List UInt8} {s2:List UInt8} {n:Int} {c:St} {g:Tms} (h:rlT F d (endP 0 s).1=some (n,c,g)) (h2:¬200<done.cnt) (h3:(endP 0 s).2=32::s2):contL (F+1) d done s=contL F d (done.app (.cons n c g .nil)) s2:=by
 have hc:(done.app (.cons n c g .nil)).cnt=done.cnt+1:=by rw [zkX];rfl
 rw [contL,contL,hc,rlL,h]
 simp only
 rw [if_neg h2,h3]
 simp only [if_true]
 rw [Option.map_map]
 congr 1
 funext r
 simp only [Function.comp]
 rw [zhI]
 rfl
theorem zfQ (F d:Nat) (s:List UInt8):contL F d .nil s=rlL F d 0 s:=by
 rw [contL,show Tms.nil.cnt=0 from rfl]
 cases rlL F d 0 s <;> rfl
theorem zlX:∀(f d k:Nat) (s:List UInt8) (t:Tms),rlL f d k s=some t→t.cnt+k≤202:=by
 intro f
 induction f with
 | zero=>intro d k s t h;rw [rlL] at h;cases h
 | succ f ih =>
  intro d k s t h
  rw [rlL] at h
  split at h
  ·cases h
  ·split at h
   ·cases h
   ·split at h
    ·cases h
     simp only [Tms.cnt]
     omega
    ·split at h
     ·obtain ⟨r,h9,rfl⟩:=Option.map_eq_some_iff.1 h
      have:=ih _ _ _ _ h9
      simp only [Tms.cnt]
      omega
     ·cases h
theorem zeI {f d:Nat} {s:List UInt8} {t:Tms} (h:listP f d s=some t):t.cnt≤202:=by
 unfold listP at h
 split at h
 ·cases h
  simp [Tms.cnt]
 ·have:=zlX _ _ _ _ _ h
  omega
end Go.Proofs.YtkneghkbgingdaaGreatDoor
/- The reference's Cut,Number and kind. -/
namespace Go.Proofs.YtkneghkbgingdaaGreatDoor
set_option maxRecDepth 100000
set_option maxRecDepth 100000
open Go.RowKit
theorem zfp (l:List UInt8) (f k:Nat):(⟨l.toArray⟩:ByteArray).extract f k=⟨((l.drop f).take (k-f)).toArray⟩:=by
 apply ByteArray.ext
 apply Array.toList_inj.1
 rw [Lib.extract_data]
theorem zkc {c:UInt8} {l:List UInt8} {f:Nat} (h:c ∉ (l.drop f).take (l.length-f)):spl c (l.drop f)=[(l.drop f).take (l.length-f)]:=by
 have e:(l.drop f).take (l.length-f)=l.drop f:=List.take_of_length_le (by simp)
 rw [e] at h ⊢
 exact zcD h
theorem znm {c:UInt8} {l:List UInt8} {f k:Nat} (hf:f≤k) (hk:k<l.length) (h:c ∉ (l.drop f).take (k-f)) (hc:l.getD k 0=c):spl c (l.drop f)=(l.drop f).take (k-f)::spl c (l.drop (k+1)):=by
 have e:l.drop f=(l.drop f).take (k-f)++c::l.drop (k+1):=by
  conv=>lhs;rw [←List.take_append_drop (k-f) (l.drop f)]
  rw [List.drop_drop,show f+(k-f)=k by omega,List.drop_eq_getElem_cons hk]
  rw [List.getD_eq_getElem?_getD,List.getElem?_eq_getElem hk] at hc
  have hc:l[k]=c:=hc
  rw [hc]
 conv=>lhs;rw [e]
 rw [zbL h]
theorem zjz {c:UInt8} {l:List UInt8} {f k:Nat} (hf:f≤k) (hk:k<l.length) (h:c ∉ (l.drop f).take (k-f)) (hc:¬l.getD k 0=c):c ∉ (l.drop f).take (k+1-f):=by
 rw [show k+1-f=(k-f)+1 by omega,List.take_add_one]
 intro h9
 rcases List.mem_append.1 h9 with h9 | h9
 ·exact h h9
 ·rw [List.getElem?_drop,show f+(k-f)=k by omega,List.getElem?_eq_getElem hk] at h9
  apply hc
  rw [List.getD_eq_getElem?_getD,List.getElem?_eq_getElem hk]
  simp at h9
  exact h9.symm
structure CutAt (c:UInt8) (l:List UInt8) (k f:Nat) (ws:List (List UInt8)):Prop where
 mid:k≤l.length→f≤k∧ws++spl c (l.drop f)=spl c l∧c ∉ (l.drop f).take (k-f)
 fin:k=l.length+1→ws=spl c l
set_option maxHeartbeats 4000000 in
theorem za7 (c:UInt8) (l:List UInt8) (hl:l.length≤100000) (w:World) :
  Calls Tryz.prog 31 #[.string ⟨l.toArray⟩,.int .u8 (c.toNat:Int)] w fun e w'=>∃v,e = .returned v∧OwnV shStr w' w.heap.size 9 v (spl c l).length (spl c l)∧Ext w w':=by
 have hx:=fun f k=>zfp l f k
 go_enter Tryz.func31,Tryz.ntmps31
 go_wp2_with fail
 go_loopw [5,6,7] (fun u i j wr=>∃(V:Value) (f k m:Nat) (ws:List (List UInt8)),V=u∧i = .int .i64 f∧j = .int .i64 k∧k≤l.length+1∧f≤k∧m≤k∧Hid (OwnV shStr wr w.heap.size 9 V m ws)∧Hid (CutAt c l k f ws)∧Hid (Ext w wr)) (fun _ _ j _=>l.length+1-(intOf j).toNat)
 case atStart=>exact ⟨_,0,0,0,[],rfl,rfl,rfl,by omega,by omega,by omega,Lib.hid (OwnV.nil _ _ _ _),Lib.hid ⟨fun _=>⟨by omega,rfl,by simp⟩,fun h=>by omega⟩,Lib.hid (Ext.refl _)⟩
 case round =>
  obtain ⟨V,f,k,m,ws,rfl,rfl,rfl,hk,hfk,hmk,HV,HC,HE⟩:=hrel
  have q0:(0:Int)≤(f:Int):=by omega
  have q1:(f:Int)≤(k:Int):=by omega
  have q9:(0:Int)≤(k:Int):=by omega
  by_cases h1:k=l.length+1
  ·subst h1
   have HF:=Lib.hid (HC.out.fin rfl)
   obtain rfl:m=ws.length:=(OwnV.len HV.out).symm
   have hno:¬((l.length:Int)+1≤(l.length:Int)):=by omega
   go_wp2_with fail
   go_ret
   exact ⟨V,rfl,by rw [←HF.out];exact HV.out,HE.out⟩
  ·obtain ⟨hf,hm,hn⟩:=HC.out.mid (by omega)
   have q2:(k:Int)≤(l.length:Int):=by omega
   by_cases h2:k=l.length
   ·subst h2
    have HL:=Lib.hid (zkc hn)
    rw [HL.out] at hm
    have HM:=Lib.hid hm
    clear hm hn HC HL hf
    go_wp2_with (at_builtin;(refine zac (S:=shStr) (w:=w) (m:=1) (xs:=[(l.drop f).take (l.length-f)]) 67 9 (.string ⟨#[]⟩) 16 (by rfl) (by rfl) Tryz.underlying67 zbs (by rfl) (by omega) (by rfl) (by rfl) (OwnV.ext HV.out (by repeat (first | exact Ext.refl _ | refine Ext.alloc ?_ _))) (HE.out.trans (by repeat (first | exact Ext.refl _ | refine Ext.alloc ?_ _))) (Vec.lit2 (by simp) rfl rfl) (by omega) ?_;intro v' w6 hown6 hext6 hgr6))
    have HN:=Lib.hid hown6
    clear hown6 hgr6
    go_roundw
    case rel=>exact ⟨v',l.length+1,l.length+1,m+1,_,rfl,by go_num,by go_num,by omega,by omega,by omega,HN,Lib.hid ⟨fun h=>by omega,fun _=>HM.out⟩,hext6⟩
    case measure=>simp [intOf] <;> omega
   ·have q3:(k:Int)<(l.length:Int):=by omega
    have h5:=zam l k
    have q7:((k:Int)==(l.length:Int))=false:=by rw [beq_eq_false_iff_ne];omega
    by_cases hc:l.getD k 0=c
    ·have HL:=Lib.hid (znm hf (by omega) hn hc)
     rw [HL.out] at hm
     have HM:=Lib.hid hm
     rw [hc] at h5
     clear hm hn HC HL hf hc
     go_wp2_with (at_builtin;(refine zac (S:=shStr) (w:=w) (m:=1) (xs:=[(l.drop f).take (k-f)]) 67 9 (.string ⟨#[]⟩) 16 (by rfl) (by rfl) Tryz.underlying67 zbs (by rfl) (by omega) (by rfl) (by rfl) (OwnV.ext HV.out (by repeat (first | exact Ext.refl _ | refine Ext.alloc ?_ _))) (HE.out.trans (by repeat (first | exact Ext.refl _ | refine Ext.alloc ?_ _))) (Vec.lit2 (by simp) rfl rfl) (by omega) ?_;intro v' w6 hown6 hext6 hgr6))
     have HN:=Lib.hid hown6
     clear hown6 hgr6
     go_roundw
     case rel=>exact ⟨v',k+1,k+1,m+1,_,rfl,by go_num,by go_num,by omega,by omega,by omega,HN,Lib.hid ⟨fun h=>⟨by omega,by rw [List.append_assoc];exact HM.out,by simp⟩,fun h=>by omega⟩,hext6⟩
     case measure=>simp [intOf] <;> omega
    ·have hne:(((l.getD k 0).toNat:Int)==(c.toNat:Int))=false:=by rw [beq_eq_false_iff_ne];exact fun h=>hc (UInt8.toNat_inj.1 (by omega))
     have HN:=Lib.hid (zjz hf (by omega) hn hc)
     have HM:=Lib.hid hm
     generalize l.getD k 0=d at *
     clear hm hn HC hc
     go_wp2_with fail
     go_roundw
     case rel=>exact ⟨V,f,k+1,m,ws,rfl,rfl,by go_num,by omega,by omega,by omega,HV,Lib.hid ⟨fun h=>⟨by omega,HM.out,HN.out⟩,fun h=>by omega⟩,HE⟩
     case measure=>simp [intOf] <;> omega
end Go.Proofs.YtkneghkbgingdaaGreatDoor
