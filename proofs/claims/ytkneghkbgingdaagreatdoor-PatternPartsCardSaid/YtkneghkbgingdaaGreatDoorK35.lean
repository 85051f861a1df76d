/- A line put behind rows (the program's add). -/
import Derived.Test.YtkneghkbgingdaaGreatDoorK34
set_option maxHeartbeats 16000000
namespace Go.Proofs.YtkneghkbgingdaaGreatDoor
set_option maxRecDepth 100000
open Go.RowKit Go.ChangeShapes Go.WideShapes Go.Joins
def AddR (W:World) (acc:List Ro) (s:List UInt8) (e:Ending) (w':World):Prop:=∃(V:Value) (ok:Bool),e = .returned (.tuple #[V,.bool ok])∧Ext W w' ∧
 ((addP atoiO acc s=none∧ok=false∧∃(A:Option Addr) (n c:Nat),V = .slice A n c)∨∃l,addP atoiO acc s=some l∧ok=true∧OwnQ w' W.heap.size 75 V l.length l)
theorem AddR.no {W w':World} {acc:List Ro} {s:List UInt8} {A:Option Addr} {n c:Nat} (h:addP atoiO acc s=none) (hb:Ext W w'):AddR W acc s (.returned (.tuple #[.slice A n c,.bool false])) w':=⟨_,_,rfl,hb,.inl ⟨h,rfl,A,n,c,rfl⟩⟩
theorem AddR.nob {W w':World} {acc:List Ro} {s:List UInt8} {A:Option Addr} {n c:Nat} {ok:Bool} (hk:ok=false) (h:addP atoiO acc s=none) (hb:Ext W w'):AddR W acc s (.returned (.tuple #[.slice A n c,.bool ok])) w':=⟨_,_,rfl,hb,.inl ⟨h,hk,A,n,c,rfl⟩⟩
theorem AddR.yes {W w':World} {acc l:List Ro} {s:List UInt8} {V:Value} {k:Nat} (h:addP atoiO acc s=some l) (hk:l.length=k) (hb:Ext W w') (ho:OwnQ w' W.heap.size 75 V k l):AddR W acc s (.returned (.tuple #[V,.bool true])) w':=by
 subst hk
 exact ⟨_,_,rfl,hb,.inr ⟨l,h,rfl,ho⟩⟩
theorem zl2 {acc:List Ro} {s:List UInt8} {k m:Int} (h:s.take 6=agnB) (hk:numP atoiO (cutA 32 (s.drop 6)).1=k) (hm:numP atoiO (cutA 32 (s.drop 6)).2=m) (hc:k<1∨2<k∨(acc.length:Int)<k∨m<1∨100<m):addP atoiO acc s=none:=by
 subst hk
 subst hm
 rw [addP,if_pos h]
 exact if_pos hc
theorem zl4 {acc:List Ro} {s:List UInt8} {k m:Nat} (h:s.take 6=agnB) (hk:numP atoiO (cutA 32 (s.drop 6)).1=(k:Int)) (hm:numP atoiO (cutA 32 (s.drop 6)).2=(m:Int)) (hc:¬((k:Int)<1∨2<(k:Int)∨(acc.length:Int)<(k:Int)∨(m:Int)<1∨100<(m:Int))) :
  addP atoiO acc s=if acc.length+k*m≤100 then some (copies k (k*m) acc) else none:=by
 rw [addP,if_pos h]
 simp only
 rw [hk,hm,if_neg hc]
 have e:(k:Int)*(m:Int)=((k*m:Nat):Int):=by rw [Int.natCast_mul]
 rw [e,Int.toNat_natCast,Int.toNat_natCast]
 by_cases h2:acc.length+k*m≤100
 ·rw [if_pos h2,if_pos (by omega)]
 ·rw [if_neg h2,if_neg (by omega)]
theorem zjX {acc:List Ro} {s sd:List UInt8} (h:¬s.take 6=agnB) (hs:(cutA 32 s).1=sd) (h1:(sd==[102,114,111,110,116])=false) (h2:(sd==[98,97,99,107])=false):addP atoiO acc s=none:=by
 rw [addP,if_neg h,hs]
 exact if_pos ⟨by simpa [sideB] using h1,by simpa [sideB] using h2⟩
theorem zl3 {acc:List Ro} {s sd r:List UInt8} {bk:Bool} (h:¬s.take 6=agnB) (hs:(cutA 32 s).1=sd) (hr:(cutA 32 s).2=r) (h1:(sd==[102,114,111,110,116])=true∨bk=true) (h2:(sd==[98,97,99,107])=bk) :
  addP atoiO acc s=match parseT atoiO r with
  | none=>none
  | some t=>if acc.length<100 then some (acc++[⟨bk,t.cells⟩]) else none:=by
 rw [addP,if_neg h,hs,hr]
 have e:decide (sd=sideB true)=bk:=by rw [←h2];by_cases h9:sd=[98,97,99,107] <;> simp [h9,sideB]
 rw [e]
 refine if_neg ?_
 rintro ⟨g1,g2⟩
 rcases h1 with h1 | h1
 ·exact g1 (by simpa [sideB] using h1)
 ·rw [h1] at h2
  exact g2 (by simpa [sideB] using h2)
theorem zlf {n:Nat} {g:List St} (h:allB g=true):allB (rep n g)=true:=by
 induction n with
 | zero=>rfl
 | succ n ih =>
  rw [rep]
  unfold allB at *
  rw [List.all_append,h,ih]
  rfl
theorem zlu:∀ {t:Tms},fineT t=true→allB t.cells=true:=by
 intro t
 induction t with
 | nil=>intro _;rfl
 | cons N c g r ih1 ih2 =>
  intro h
  obtain ⟨hn,hg,hr,hc, -⟩:=zcy h
  have a1:=ih1 hg
  have b1:=ih2 hr
  rw [zeN]
  have h9:allB (rep N.toNat (ownC c g))=true:=by
   apply zlf
   by_cases h0:g = .nil
   ·subst h0
    rw [zfZ]
    simp [allB,hc rfl]
   ·rw [zfY c (by cases g with | nil=>exact absurd rfl h0 | cons=>simp [Tms.cnt])]
    exact a1
  unfold allB at *
  rw [List.all_append,h9,b1]
  rfl
theorem zhr (W w:World) (A:Option Addr) (n c:Nat) (acc:List Ro) (s:List UInt8) (hx:Ext W w) (ho:OwnQ w W.heap.size 75 (.slice A n c) n acc) (hn:n≤100) (hs:s.length≤100000) (hg:Glob w) (ha:s.take 6=agnB) :
  Calls Tryz.prog 46 #[.slice A n c,.string ⟨s.toArray⟩] w (AddR W acc s):=by
 have HX:=Za hx
 have HO:=Za ho
 have HG:=Za hg
 have hlen:=ho.len
 have HLN:=Za hlen
 have HCP:=Za (fun (w':World)=>zdz s w')
 rw [if_pos ha,Z8 ha] at HCP
 obtain ⟨r,hr⟩:∃r,s.drop 6=r:=⟨_,rfl⟩
 have hrl:r.length≤100000:=by rw [←hr,ZD];omega
 have HCU:=Za (fun (w':World) (h:Ext w w')=>zdX 32 r (by omega) w' (hg.ext h))
 obtain ⟨hal,hbl⟩:=zdY 32 r
 have hbad:=fun (k m:Int)=>zl2 (acc:=acc) (s:=s) (k:=k) (m:=m) ha
 have hrep:=fun (k m:Nat)=>zl4 (acc:=acc) (s:=s) (k:=k) (m:=m) ha
 rw [hr] at HCP hbad hrep
 obtain ⟨a,haa⟩:∃a,(cutA 32 r).1=a:=⟨_,rfl⟩
 obtain ⟨b,hbb⟩:∃b,(cutA 32 r).2=b:=⟨_,rfl⟩
 rw [haa,hbb] at HCU hbad hrep
 rw [haa] at hal
 rw [hbb] at hbl
 have HN1:=Za (fun (w':World) (h:Ext w w')=>zaC a (by omega) w' (hg.ext h))
 have HN2:=Za (fun (w':World) (h:Ext w w')=>zaC b (by omega) w' (hg.ext h))
 obtain ⟨k,hk⟩:∃k,numP atoiO a=k:=⟨_,rfl⟩
 obtain ⟨m,hm⟩:∃m,numP atoiO b=m:=⟨_,rfl⟩
 rw [hk] at HN1
 rw [hm] at HN2
 have hbad:=hbad k m hk hm
 rw [hlen] at hbad
 have HBAD:=Za hbad
 have HREP:=Za hrep
 have HK:=Za hk
 have HM:=Za hm
 clear hx ho hg hs ha hr haa hbb hk hm hbad hrep hlen
 by_cases c1:k<1
 case pos =>
  have HNO:=Za (HBAD.out (.inl c1))
  clear HBAD HREP
  go_enter Tryz.func46,Tryz.ntmps46
  go_wp2_with (first
   | (go_at_call 78;((with_reducible refine (HCP.out _).mono ?_);rintro e w9 ⟨rfl,hw9⟩;subst w9))
   | (go_at_call 45;((with_reducible refine (HCU.out _ zx).mono ?_);rintro e w1 ⟨f1,rfl,hq1⟩))
   | (go_at_call 79;first
    | ((with_reducible refine (HN1.out _ zx).mono ?_);rintro e w2 ⟨rfl,hq2⟩)
    | (((with_reducible refine (HN2.out _ zx).mono ?_);rintro e w3 ⟨rfl,hq3⟩))))
  go_ret2
  exact AddR.no HNO.out (HX.out.trans zx)
 by_cases c2:2<k
 case pos =>
  have HNO:=Za (HBAD.out (.inr (.inl c2)))
  clear HBAD HREP
  go_enter Tryz.func46,Tryz.ntmps46
  go_wp2_with (first
   | (go_at_call 78;((with_reducible refine (HCP.out _).mono ?_);rintro e w9 ⟨rfl,hw9⟩;subst w9))
   | (go_at_call 45;((with_reducible refine (HCU.out _ zx).mono ?_);rintro e w1 ⟨f1,rfl,hq1⟩))
   | (go_at_call 79;first
    | ((with_reducible refine (HN1.out _ zx).mono ?_);rintro e w2 ⟨rfl,hq2⟩)
    | (((with_reducible refine (HN2.out _ zx).mono ?_);rintro e w3 ⟨rfl,hq3⟩))))
  go_ret2
  exact AddR.no HNO.out (HX.out.trans zx)
 by_cases c3:(n:Int)<k
 case pos =>
  have HNO:=Za (HBAD.out (.inr (.inr (.inl c3))))
  clear HBAD HREP
  go_enter Tryz.func46,Tryz.ntmps46
  go_wp2_with (first
   | (go_at_call 78;((with_reducible refine (HCP.out _).mono ?_);rintro e w9 ⟨rfl,hw9⟩;subst w9))
   | (go_at_call 45;((with_reducible refine (HCU.out _ zx).mono ?_);rintro e w1 ⟨f1,rfl,hq1⟩))
   | (go_at_call 79;first
    | ((with_reducible refine (HN1.out _ zx).mono ?_);rintro e w2 ⟨rfl,hq2⟩)
    | (((with_reducible refine (HN2.out _ zx).mono ?_);rintro e w3 ⟨rfl,hq3⟩))))
  go_ret2
  exact AddR.no HNO.out (HX.out.trans zx)
 by_cases c4:m<1
 case pos =>
  have HNO:=Za (HBAD.out (.inr (.inr (.inr (.inl c4)))))
  clear HBAD HREP
  go_enter Tryz.func46,Tryz.ntmps46
  go_wp2_with (first
   | (go_at_call 78;((with_reducible refine (HCP.out _).mono ?_);rintro e w9 ⟨rfl,hw9⟩;subst w9))
   | (go_at_call 45;((with_reducible refine (HCU.out _ zx).mono ?_);rintro e w1 ⟨f1,rfl,hq1⟩))
   | (go_at_call 79;first
    | ((with_reducible refine (HN1.out _ zx).mono ?_);rintro e w2 ⟨rfl,hq2⟩)
    | (((with_reducible refine (HN2.out _ zx).mono ?_);rintro e w3 ⟨rfl,hq3⟩))))
  go_ret2
  exact AddR.no HNO.out (HX.out.trans zx)
 by_cases c5:100<m
 case pos =>
  have HNO:=Za (HBAD.out (.inr (.inr (.inr (.inr c5)))))
  clear HBAD HREP
  go_enter Tryz.func46,Tryz.ntmps46
  go_wp2_with (first
   | (go_at_call 78;((with_reducible refine (HCP.out _).mono ?_);rintro e w9 ⟨rfl,hw9⟩;subst w9))
   | (go_at_call 45;((with_reducible refine (HCU.out _ zx).mono ?_);rintro e w1 ⟨f1,rfl,hq1⟩))
   | (go_at_call 79;first
    | ((with_reducible refine (HN1.out _ zx).mono ?_);rintro e w2 ⟨rfl,hq2⟩)
    | (((with_reducible refine (HN2.out _ zx).mono ?_);rintro e w3 ⟨rfl,hq3⟩))))
  go_ret2
  exact AddR.no HNO.out (HX.out.trans zx)
 obtain ⟨k,rfl⟩:∃j:Nat,k=(j:Int):=⟨k.toNat,by omega⟩
 obtain ⟨m,rfl⟩:∃j:Nat,m=(j:Int):=⟨m.toNat,by omega⟩
 have hrep:=HREP.out k m HK.out HM.out (by rw [HLN.out];omega)
 rw [HLN.out] at hrep
 have hkm:k*m≤200:=Nat.mul_le_mul (show k≤2 by omega) (show m≤100 by omega)
 obtain ⟨N,hN⟩:∃N,k*m=N:=⟨_,rfl⟩
 rw [hN] at hkm hrep
 have eN:(k:Int)*(m:Int)=(N:Int):=by rw [←hN,Int.natCast_mul]
 have HRP:=Za hrep
 have HKK:=Za (show 1≤k∧k≤n by omega)
 clear hrep hN HBAD HREP HK HM
 go_enter Tryz.func46,Tryz.ntmps46
 go_wp2_with (first
  | (go_at_call 78;((with_reducible refine (HCP.out _).mono ?_);rintro e w9 ⟨rfl,hw9⟩;subst w9))
  | (go_at_call 45;((with_reducible refine (HCU.out _ zx).mono ?_);rintro e w1 ⟨f1,rfl,hq1⟩))
  | (go_at_call 79;first
   | ((with_reducible refine (HN1.out _ zx).mono ?_);rintro e w2 ⟨rfl,hq2⟩)
   | (((with_reducible refine (HN2.out _ zx).mono ?_);rintro e w3 ⟨rfl,hq3⟩))))
 have HE3:=Za (show Ext w w3 from zx)
 have b1:decide ((k:Int)<1)=false:=ZS (by omega)
 have b2:decide ((2:Int)<(k:Int))=false:=ZS (by omega)
 have b3:decide (n<k)=false:=ZS (by omega)
 have b4:decide ((m:Int)<1)=false:=ZS (by omega)
 have b5:decide ((100:Int)<(m:Int))=false:=ZS (by omega)
 simp only [b1,b2,b3,b4,b5,Bool.or_false]
 clear b1 b2 b3 b4 b5
 go_loopw [0,58] (fun u i wr=>∃(j p q:Nat) (A':Option Addr) (acc':List Ro),u = .slice A' p q∧i = .int .i64 (j:Int)∧j≤N∧Hid (p=n+j)∧Hid (OwnQ wr W.heap.size 75 (.slice A' p q) p acc'∧Ext W wr∧copies k N acc=copies k (N-j) acc')) (fun _ i _=>N-(intOf i).toNat)
 case atStart=>exact ⟨0,n,c,A,acc,rfl,rfl,Zu _,Za rfl,Za ⟨HO.out.ext HE3.out,HX.out.trans HE3.out,rfl⟩⟩
 case round =>
  obtain ⟨j,p,q,A',acc',rfl,rfl,hj,hp,HH⟩:=hrel
  obtain ⟨wa,rfl⟩:∃wa:World,wa=wr:=⟨_,rfl⟩
  have hpb:p≤300:=by have:=hp.out;omega
  have hpk:k≤p:=by have:=hp.out;have:=HKK.out;omega
  by_cases hlt:j<N
  ·have q1:(j:Int)<(N:Int):=by omega
   have hkk:=HKK.out
   obtain ⟨b0,off0,x,rfl,hb0,d0,d1,hro,hxc⟩:=HH.out.1.row (j:=p-k) (by omega)
   have e1:(p:Int)-(k:Int)=((p-k:Nat):Int):=by omega
   have e2:((p:Int)-(k:Int)).toNat=p-k:=by omega
   have i1:=Zp ((p:Int)-(k:Int)) (by omega)
   have i2:=Zp ((j:Int)+1) (by omega)
   have z0:(0:Int)≤(p:Int)-(k:Int):=by omega
   have z1:(p:Int)-(k:Int)<(p:Int):=by omega
   have z2:(0:Int)≤(j:Int):=by omega
   have hl2:=HH.out.1.len
   have HCO:=Za (show copies k N acc=copies k (N-(j+1)) (acc'++[acc'.getD (p-k) ro0]) by
    rw [HH.out.2.2,show N-j=N-(j+1)+1 by omega,copies,hl2])
   obtain ⟨xb,xA,xn,xc⟩:=x
   simp only at d0 d1 hxc
   have HRO:=Za hro
   clear hro e1
   go_wp2_with (first
    | (at_builtin;(refine zav (w:=W) (t:=acc') (r:=[acc'.getD (p-k) ro0]) (ys:=[⟨xb,xA,xn,xc⟩]) 22 75 (.agg #[.bool false,.slice none 0 0]) 32 (by rfl) (by rfl) Tryz.underlying22 zbO (by rfl) (by omega) (by rfl) (by rfl) (HH.out.1.ext zx) (HH.out.2.1.trans zx) (Vec.lit2 (w:=wa) (by rfl) (by rfl) (by rfl)) (zcl (HRO.out.keep (Zr (show Ext wa _ from zx)) (fun b hb hk=>⟨hk,fun o=>Zm (p:=⟨b,o,none⟩) (show Ext wa _ from zx) hb⟩))) (fun y hy=>by simp at hy;subst hy;exact hxc) (by omega) ?_;intro v' w6 hown6 hext6;obtain ⟨A6,c6,rfl, -⟩:=zbz hown6 (by omega);have HO6:=Za hown6;clear hown6)))
   go_roundw
   case rel=>exact ⟨j+1,p+1,c6,A6,acc'++[acc'.getD (p-k) ro0],by go_num,by go_num,by omega,Za (by have:=hp.out;omega),Za ⟨HO6.out,hext6.out,HCO.out⟩⟩
   case measure=>simp [intOf] <;> omega
  ·obtain rfl:N=j:=by omega
   have hco:=HH.out.2.2
   rw [Nat.sub_self] at hco
   have HCO:=Za (show copies k N acc=acc' from hco)
   have q1:¬((N:Int)<(N:Int)):=by omega
   have hl2:=HH.out.1.len
   clear hco
   by_cases h100:n+N≤100
   ·have HYE:=Za (show addP atoiO acc s=some acc' by rw [HRP.out,if_pos h100,HCO.out])
    have q2:(p:Int)≤100:=by have:=hp.out;omega
    go_wp2_with fail
    go_ret2
    exact AddR.yes HYE.out hl2 HH.out.2.1 HH.out.1
   ·have HNO:=Za (show addP atoiO acc s=none by rw [HRP.out,if_neg h100])
    have q2:¬((p:Int)≤100):=by have:=hp.out;omega
    go_wp2_with fail
    go_ret2
    exact AddR.nob (by first | rfl | exact ZS (by omega)) HNO.out HH.out.2.1
theorem zi0 (W w:World) (A:Option Addr) (n c:Nat) (acc:List Ro) (s:List UInt8) (hx:Ext W w) (ho:OwnQ w W.heap.size 75 (.slice A n c) n acc) (hn:n≤100) (hs:s.length≤100000) (hg:Glob w) (ha:¬s.take 6=agnB) :
  Calls Tryz.prog 46 #[.slice A n c,.string ⟨s.toArray⟩] w (AddR W acc s):=by
 have HX:=Za hx
 have HO:=Za ho
 have HG:=Za hg
 have hlen:=ho.len
 have HLN:=Za hlen
 have HCP:=Za (fun (w':World)=>zdz s w')
 rw [if_neg ha,ZS ha] at HCP
 have HCU:=Za (fun (w':World) (h:Ext w w')=>zdX 32 s (by omega) w' (hg.ext h))
 obtain ⟨hal,hbl⟩:=zdY 32 s
 have hno:=fun (sd:List UInt8)=>zjX (acc:=acc) (s:=s) (sd:=sd) ha
 have hpa:=fun (sd r:List UInt8) (bk:Bool)=>zl3 (acc:=acc) (s:=s) (sd:=sd) (r:=r) (bk:=bk) ha
 obtain ⟨sd,hsd⟩:∃a,(cutA 32 s).1=a:=⟨_,rfl⟩
 obtain ⟨r,hr⟩:∃b,(cutA 32 s).2=b:=⟨_,rfl⟩
 rw [hsd,hr] at HCU
 rw [hr] at hbl
 have hno:=hno sd hsd
 have hpa:=hpa sd r
 have HPR:=Za (fun (w':World) (h:Ext w w')=>zkW r (by omega) trivial w' (hg.ext h))
 have HSD:=Za hsd
 have HR:=Za hr
 clear hx ho hg hs ha hsd hr hal hlen
 obtain ⟨bk,hbk⟩:∃bk,(sd==[98,97,99,107])=bk:=⟨_,rfl⟩
 have hpa:=hpa bk HSD.out HR.out
 by_cases hf:(sd==[102,114,111,110,116])=false∧bk=false
 ·obtain ⟨h1,rfl⟩:=hf
  have h1':(sd != [102,114,111,110,116])=true:=by simpa using h1
  have hbk':(sd != [98,97,99,107])=true:=by simpa using hbk
  have HNO:=Za (hno h1 hbk)
  clear hno hpa
  go_enter Tryz.func46,Tryz.ntmps46
  go_wp2_with (first
   | (go_at_call 78;((with_reducible refine (HCP.out _).mono ?_);rintro e w9 ⟨rfl,hw9⟩;subst w9))
   | (go_at_call 45;((with_reducible refine (HCU.out _ zx).mono ?_);rintro e w1 ⟨f1,rfl,hq1⟩)))
  go_ret2
  exact AddR.no HNO.out (HX.out.trans zx)
 ·have hor:(sd==[102,114,111,110,116])=true∨bk=true:=by
   cases hq:(sd==[102,114,111,110,116]) with
   | true=>exact .inl rfl
   | false =>
    cases hb:bk with
    | true=>exact .inr rfl
    | false=>exact absurd ⟨hq,hb⟩ hf
  have hpa:=hpa hor hbk
  have hcc:((sd==[102,114,111,110,116])=true∧bk=false)∨((sd==[102,114,111,110,116])=false∧bk=true):=by
   cases hq:(sd==[102,114,111,110,116]) with
   | true =>
    left
    refine ⟨rfl,?_⟩
    have h9:sd=[102,114,111,110,116]:=by simpa using hq
    rw [←hbk,h9]
    rfl
   | false =>
    right
    refine ⟨rfl,?_⟩
    rcases hor with h | h
    ·rw [hq] at h;cases h
    ·exact h
  clear hno hor hf
  cases hp:parseT atoiO r with
  | none =>
   rw [hp] at hpa
   have HNO:=Za hpa
   have HP1:=Za (show ∀(w':World),Ext w w'→Calls Tryz.prog 80 #[.string ⟨r.toArray⟩] w' fun e w''=>e = .returned (.tuple #[.slice none 0 0,.int .i64 12])∧Ext w' w'' from fun w' h=>by
    refine (HPR.out w' h).mono ?_
    rintro e w9 ⟨v,x,rfl,hb,⟨_,rfl,rfl⟩ | ⟨t,h2,_⟩⟩
    ·exact ⟨rfl,hb⟩
    ·rw [hp] at h2;cases h2)
   clear hpa hp HPR
   rcases hcc with ⟨h1,rfl⟩ | ⟨h1,rfl⟩ <;>
   ·have h1':(sd != [102,114,111,110,116]) = !(sd==[102,114,111,110,116]):=rfl
    rw [h1] at h1'
    have hbk':(sd != [98,97,99,107]) = !(sd==[98,97,99,107]):=rfl
    rw [hbk] at hbk'
    simp only [Bool.not_true,Bool.not_false] at h1' hbk'
    go_enter Tryz.func46,Tryz.ntmps46
    go_wp2_with (first
     | (go_at_call 78;((with_reducible refine (HCP.out _).mono ?_);rintro e w9 ⟨rfl,hw9⟩;subst w9))
     | (go_at_call 45;((with_reducible refine (HCU.out _ zx).mono ?_);rintro e w1 ⟨f1,rfl,hq1⟩))
     | (go_at_call 80;((with_reducible refine (HP1.out _ zx).mono ?_);rintro e w2 ⟨rfl,hq2⟩)))
    go_ret2
    exact AddR.no HNO.out (HX.out.trans zx)
  | some t =>
   rw [hp] at hpa
   simp only at hpa
   obtain ⟨g1,g2,g3⟩:=(zbQ zng).1 hp
   obtain ⟨g4,g5,g6⟩:=za5 g2
   have g7:=zba t
   have gcl:=(zlY g2).2.2.2
   have gby:Bytes t.cells:=zbN (zlu g6)
   have HP1:=Za (show ∀(w':World),Ext w w'→Calls Tryz.prog 80 #[.string ⟨r.toArray⟩] w' fun e w''=>∃(A1:Option Addr) (c1:Nat),e = .returned (.tuple #[.slice A1 t.cnt c1,.int .i64 0])∧Ext w' w''∧Tv w'' A1 t.cnt t from fun w' h=>by
    refine (HPR.out w' h).mono ?_
    rintro e w9 ⟨v,x,rfl,hb,⟨h2,_,_⟩ | ⟨t2,h2,rfl,ho⟩⟩
    ·rw [hp] at h2;cases h2
    ·rw [hp] at h2
     cases h2
     obtain ⟨A1,c1,rfl,hv⟩:=zbG ho (by omega)
     exact ⟨A1,c1,rfl,hb,hv.tv⟩)
   have HEX:=Za (show ∀(A1:Option Addr) (c1:Nat) (w':World),Tv w' A1 t.cnt t→Calls Tryz.prog 81 #[.slice A1 t.cnt c1] w' fun e w''=>∃(A2:Option Addr) (n2 c2:Nat),e = .returned (.tuple #[.slice A2 n2 c2,.int .i64 0])∧Ext w' w''∧Vec shSt w'' A2 n2 t.cells∧(0<n2→∀b off,A2=some ⟨b,off,none⟩→w'.heap.size≤b)∧n2≤c2 from fun A1 c1 w' h=>by
    refine (zls t (by omega) A1 t.cnt c1 w' h).mono ?_
    rintro e w9 ⟨A2,n2,c2,rfl,h1,h2,h3,h4⟩
    rw [if_pos g2] at h2
    rw [g2]
    exact ⟨A2,n2,c2,rfl,h1,h2,h3,h4⟩)
   clear hp HPR g1 g3 g4 g5 g6 g7
   have HBY:=Za gby
   clear gby
   by_cases h100:n<100
   ·have p1:(n:Int)<100:=by omega
    have HYE:=Za (show addP atoiO acc s=some (acc++[⟨bk,t.cells⟩]) by rw [hpa,if_pos (by rw [HLN.out];exact h100)])
    clear hpa
    rcases hcc with ⟨h1,rfl⟩ | ⟨h1,rfl⟩
    ·have h1':(sd != [102,114,111,110,116]) = !(sd==[102,114,111,110,116]):=rfl
     rw [h1] at h1'
     have hbk':(sd != [98,97,99,107]) = !(sd==[98,97,99,107]):=rfl
     rw [hbk] at hbk'
     simp only [Bool.not_true,Bool.not_false] at h1' hbk'
     go_enter Tryz.func46,Tryz.ntmps46
     go_wp2_with (first
      | (go_at_call 78;((with_reducible refine (HCP.out _).mono ?_);rintro e w9 ⟨rfl,hw9⟩;subst w9))
      | (go_at_call 45;((with_reducible refine (HCU.out _ zx).mono ?_);rintro e w1 ⟨f1,rfl,hq1⟩))
      | (go_at_call 80;((with_reducible refine (HP1.out _ zx).mono ?_);rintro e w2 ⟨A1,c1,rfl,hq2,hv2⟩;have HV2:=Za hv2;clear hv2))
      | (go_at_call 81;((with_reducible refine (HEX.out _ _ _ (HV2.out.ext zx)).mono ?_);rintro e w3 ⟨A2,n2,c2,rfl,hq3,hv3,hb3,hc3⟩;have HV3:=Za hv3;have HB3:=Za (show 0<n2→∀b off,A2=some ⟨b,off,none⟩→w.heap.size≤b from fun h b off e=>ZB (Zr (show Ext w _ from zx)) (hb3 h b off e));have HN3:=Za (show n2≤maxLen by rw [←hv3.1];unfold maxLen;omega);clear hv3 hb3))
      | (at_builtin;(refine zav (w:=W) (t:=acc) (r:=[⟨false,t.cells⟩]) (ys:=[⟨false,A2,n2,c2⟩]) 22 75 (.agg #[.bool false,.slice none 0 0]) 32 (by rfl) (by rfl) Tryz.underlying22 zbO (by rfl) (by omega) (by rfl) (by rfl) (HO.out.ext zx) (HX.out.trans zx) (Vec.lit2 (w:=w3) (by rfl) (by rfl) (by rfl)) (zcl (show RoAt _ (Kq W.heap.size (.slice A n c)) ⟨false,A2,n2,c2⟩ ⟨false,t.cells⟩ from ⟨rfl,HV3.out.ext zx,HN3.out,HBY.out,fun h b off e=>⟨ZB (Zr HX.out) (HB3.out h b off e),fun e8=>by have h7:=(HO.out.blk b e8.symm).2;have h6:=HB3.out h b off e;omega⟩⟩)) (fun y hy=>by simp at hy;subst hy;exact hc3) (by omega) ?_;intro v' w6 hown6 hext6;obtain ⟨A6,c6,rfl, -⟩:=zbz hown6 (by omega);have HO6:=Za hown6;have HX6:=Za hext6.out;clear hown6)))
     go_ret2
     exact AddR.yes HYE.out (by rw [Zh,HLN.out];rfl) HX6.out HO6.out
    ·have h1':(sd != [102,114,111,110,116]) = !(sd==[102,114,111,110,116]):=rfl
     rw [h1] at h1'
     have hbk':(sd != [98,97,99,107]) = !(sd==[98,97,99,107]):=rfl
     rw [hbk] at hbk'
     simp only [Bool.not_true,Bool.not_false] at h1' hbk'
     go_enter Tryz.func46,Tryz.ntmps46
     go_wp2_with (first
      | (go_at_call 78;((with_reducible refine (HCP.out _).mono ?_);rintro e w9 ⟨rfl,hw9⟩;subst w9))
      | (go_at_call 45;((with_reducible refine (HCU.out _ zx).mono ?_);rintro e w1 ⟨f1,rfl,hq1⟩))
      | (go_at_call 80;((with_reducible refine (HP1.out _ zx).mono ?_);rintro e w2 ⟨A1,c1,rfl,hq2,hv2⟩;have HV2:=Za hv2;clear hv2))
      | (go_at_call 81;((with_reducible refine (HEX.out _ _ _ (HV2.out.ext zx)).mono ?_);rintro e w3 ⟨A2,n2,c2,rfl,hq3,hv3,hb3,hc3⟩;have HV3:=Za hv3;have HB3:=Za (show 0<n2→∀b off,A2=some ⟨b,off,none⟩→w.heap.size≤b from fun h b off e=>ZB (Zr (show Ext w _ from zx)) (hb3 h b off e));have HN3:=Za (show n2≤maxLen by rw [←hv3.1];unfold maxLen;omega);clear hv3 hb3))
      | (at_builtin;(refine zav (w:=W) (t:=acc) (r:=[⟨true,t.cells⟩]) (ys:=[⟨true,A2,n2,c2⟩]) 22 75 (.agg #[.bool false,.slice none 0 0]) 32 (by rfl) (by rfl) Tryz.underlying22 zbO (by rfl) (by omega) (by rfl) (by rfl) (HO.out.ext zx) (HX.out.trans zx) (Vec.lit2 (w:=w3) (by rfl) (by rfl) (by rfl)) (zcl (show RoAt _ (Kq W.heap.size (.slice A n c)) ⟨true,A2,n2,c2⟩ ⟨true,t.cells⟩ from ⟨rfl,HV3.out.ext zx,HN3.out,HBY.out,fun h b off e=>⟨ZB (Zr HX.out) (HB3.out h b off e),fun e8=>by have h7:=(HO.out.blk b e8.symm).2;have h6:=HB3.out h b off e;omega⟩⟩)) (fun y hy=>by simp at hy;subst hy;exact hc3) (by omega) ?_;intro v' w6 hown6 hext6;obtain ⟨A6,c6,rfl, -⟩:=zbz hown6 (by omega);have HO6:=Za hown6;have HX6:=Za hext6.out;clear hown6)))
     go_ret2
     exact AddR.yes HYE.out (by rw [Zh,HLN.out];rfl) HX6.out HO6.out
   ·have p1:¬((n:Int)<100):=by omega
    have HNO:=Za (show addP atoiO acc s=none by rw [hpa,if_neg (by rw [HLN.out];exact h100)])
    clear hpa
    rcases hcc with ⟨h1,rfl⟩ | ⟨h1,rfl⟩
    ·have h1':(sd != [102,114,111,110,116]) = !(sd==[102,114,111,110,116]):=rfl
     rw [h1] at h1'
     have hbk':(sd != [98,97,99,107]) = !(sd==[98,97,99,107]):=rfl
     rw [hbk] at hbk'
     simp only [Bool.not_true,Bool.not_false] at h1' hbk'
     go_enter Tryz.func46,Tryz.ntmps46
     go_wp2_with (first
      | (go_at_call 78;((with_reducible refine (HCP.out _).mono ?_);rintro e w9 ⟨rfl,hw9⟩;subst w9))
      | (go_at_call 45;((with_reducible refine (HCU.out _ zx).mono ?_);rintro e w1 ⟨f1,rfl,hq1⟩))
      | (go_at_call 80;((with_reducible refine (HP1.out _ zx).mono ?_);rintro e w2 ⟨A1,c1,rfl,hq2,hv2⟩;have HV2:=Za hv2;clear hv2))
      | (go_at_call 81;((with_reducible refine (HEX.out _ _ _ (HV2.out.ext zx)).mono ?_);rintro e w3 ⟨A2,n2,c2,rfl,hq3,hv3,hb3,hc3⟩;have HV3:=Za hv3;have HB3:=Za (show 0<n2→∀b off,A2=some ⟨b,off,none⟩→w.heap.size≤b from fun h b off e=>ZB (Zr (show Ext w _ from zx)) (hb3 h b off e));have HN3:=Za (show n2≤maxLen by rw [←hv3.1];unfold maxLen;omega);clear hv3 hb3))
      | (at_builtin;(refine zav (w:=W) (t:=acc) (r:=[⟨false,t.cells⟩]) (ys:=[⟨false,A2,n2,c2⟩]) 22 75 (.agg #[.bool false,.slice none 0 0]) 32 (by rfl) (by rfl) Tryz.underlying22 zbO (by rfl) (by omega) (by rfl) (by rfl) (HO.out.ext zx) (HX.out.trans zx) (Vec.lit2 (w:=w3) (by rfl) (by rfl) (by rfl)) (zcl (show RoAt _ (Kq W.heap.size (.slice A n c)) ⟨false,A2,n2,c2⟩ ⟨false,t.cells⟩ from ⟨rfl,HV3.out.ext zx,HN3.out,HBY.out,fun h b off e=>⟨ZB (Zr HX.out) (HB3.out h b off e),fun e8=>by have h7:=(HO.out.blk b e8.symm).2;have h6:=HB3.out h b off e;omega⟩⟩)) (fun y hy=>by simp at hy;subst hy;exact hc3) (by omega) ?_;intro v' w6 hown6 hext6;obtain ⟨A6,c6,rfl, -⟩:=zbz hown6 (by omega);have HO6:=Za hown6;have HX6:=Za hext6.out;clear hown6)))
     go_ret2
     exact AddR.nob (by first | rfl | exact ZS (by omega)) HNO.out HX6.out
    ·have h1':(sd != [102,114,111,110,116]) = !(sd==[102,114,111,110,116]):=rfl
     rw [h1] at h1'
     have hbk':(sd != [98,97,99,107]) = !(sd==[98,97,99,107]):=rfl
     rw [hbk] at hbk'
     simp only [Bool.not_true,Bool.not_false] at h1' hbk'
     go_enter Tryz.func46,Tryz.ntmps46
     go_wp2_with (first
      | (go_at_call 78;((with_reducible refine (HCP.out _).mono ?_);rintro e w9 ⟨rfl,hw9⟩;subst w9))
      | (go_at_call 45;((with_reducible refine (HCU.out _ zx).mono ?_);rintro e w1 ⟨f1,rfl,hq1⟩))
      | (go_at_call 80;((with_reducible refine (HP1.out _ zx).mono ?_);rintro e w2 ⟨A1,c1,rfl,hq2,hv2⟩;have HV2:=Za hv2;clear hv2))
      | (go_at_call 81;((with_reducible refine (HEX.out _ _ _ (HV2.out.ext zx)).mono ?_);rintro e w3 ⟨A2,n2,c2,rfl,hq3,hv3,hb3,hc3⟩;have HV3:=Za hv3;have HB3:=Za (show 0<n2→∀b off,A2=some ⟨b,off,none⟩→w.heap.size≤b from fun h b off e=>ZB (Zr (show Ext w _ from zx)) (hb3 h b off e));have HN3:=Za (show n2≤maxLen by rw [←hv3.1];unfold maxLen;omega);clear hv3 hb3))
      | (at_builtin;(refine zav (w:=W) (t:=acc) (r:=[⟨true,t.cells⟩]) (ys:=[⟨true,A2,n2,c2⟩]) 22 75 (.agg #[.bool false,.slice none 0 0]) 32 (by rfl) (by rfl) Tryz.underlying22 zbO (by rfl) (by omega) (by rfl) (by rfl) (HO.out.ext zx) (HX.out.trans zx) (Vec.lit2 (w:=w3) (by rfl) (by rfl) (by rfl)) (zcl (show RoAt _ (Kq W.heap.size (.slice A n c)) ⟨true,A2,n2,c2⟩ ⟨true,t.cells⟩ from ⟨rfl,HV3.out.ext zx,HN3.out,HBY.out,fun h b off e=>⟨ZB (Zr HX.out) (HB3.out h b off e),fun e8=>by have h7:=(HO.out.blk b e8.symm).2;have h6:=HB3.out h b off e;omega⟩⟩)) (fun y hy=>by simp at hy;subst hy;exact hc3) (by omega) ?_;intro v' w6 hown6 hext6;obtain ⟨A6,c6,rfl, -⟩:=zbz hown6 (by omega);have HO6:=Za hown6;have HX6:=Za hext6.out;clear hown6)))
     go_ret2
     exact AddR.nob (by first | rfl | exact ZS (by omega)) HNO.out HX6.out
theorem zee (W w:World) (A:Option Addr) (n c:Nat) (acc:List Ro) (s:List UInt8) (hx:Ext W w) (ho:OwnQ w W.heap.size 75 (.slice A n c) n acc) (hn:n≤100) (hs:s.length≤100000) (hg:Glob w) :
  Calls Tryz.prog 46 #[.slice A n c,.string ⟨s.toArray⟩] w (AddR W acc s):=by
 by_cases ha:s.take 6=agnB
 ·exact zhr W w A n c acc s hx ho hn hs hg ha
 ·exact zi0 W w A n c acc s hx ho hn hs hg ha
end Go.Proofs.YtkneghkbgingdaaGreatDoor
/- Rows of a list held against each other (the reference's same). -/
namespace Go.Proofs.YtkneghkbgingdaaGreatDoor
set_option maxRecDepth 100000
open Go.RowKit Go.ChangeShapes Go.WideShapes Go.Joins
end Go.Proofs.YtkneghkbgingdaaGreatDoor
/- How many times rows come again: the reference's again. -/
namespace Go.Proofs.YtkneghkbgingdaaGreatDoor
set_option maxRecDepth 100000
open Go.RowKit Go.ChangeShapes Go.WideShapes Go.Joins
theorem zir {l:List Ro} {k f i:Nat} (h:l.getD i ro0=l.getD (i-k) ro0):eqRun l k (f+1) i=eqRun l k f (i+1)+1:=by rw [eqRun,if_pos h]
theorem zkn {l:List Ro} {k f i:Nat} (h:¬l.getD i ro0=l.getD (i-k) ro0):eqRun l k f i=0:=by
 cases f with
 | zero=>rfl
 | succ f=>rw [eqRun,if_neg h]
end Go.Proofs.YtkneghkbgingdaaGreatDoor
/- How many times rows come again: the program's repeats. -/
namespace Go.Proofs.YtkneghkbgingdaaGreatDoor
set_option maxRecDepth 100000
open Go.RowKit Go.ChangeShapes Go.WideShapes Go.Joins
theorem zf7 (A:Option Addr) (n c:Nat) (l:List Ro) (i k:Nat) (w:World) (hr:Rws w (fun _=>True) A n l) (hi:i≤n) (hn:n≤1000) (hk1:1≤k) (hk2:k≤2) :
  Calls Tryz.prog 35 #[.slice A n c,.int .i64 i,.int .i64 k] w fun e w'=>e = .returned (.int .i64 (repT l i k:Nat))∧Ext w w':=by
 have HRV:=Za hr
 have HLL:=Za hr.len
 have q0:(0:Int)≤(i:Int):=by omega
 have k0:(1:Int)≤(k:Int):=by omega
 have k1:((k:Int)==0)=false:=by rw [Ze];omega
 clear hr
 by_cases hki:i<k
 ·have HN:=Za (show repT l i k=0 by rw [repT,if_pos hki])
  have p1:(i:Int)<(k:Int):=by omega
  go_enter Tryz.func35,Tryz.ntmps35
  go_wp2_with fail
  go_ret
  exact ⟨by rw [HN.out];simp,zx⟩
 ·have p1:¬((i:Int)<(k:Int)):=by omega
  go_enter Tryz.func35,Tryz.ntmps35
  go_wp2_with fail
  go_loopw [7] (fun v wr=>∃m:Nat,v = .int .i64 (m:Int)∧m≤n-i∧Hid (eqRun l k (n-i) i=m+eqRun l k (n-i-m) (i+m))∧Hid (Ext w wr)) (fun v _=>n-i-(intOf v).toNat)
  case atStart=>exact ⟨0,rfl,Zu _,Za (by simp),Za (Zd _)⟩
  case round =>
   obtain ⟨m,rfl,hm,HQ,HE⟩:=hrel
   obtain ⟨wa,rfl⟩:∃wa:World,wa=wr:=⟨_,rfl⟩
   have m0:(0:Int)≤(m:Int):=by omega
   obtain ⟨d,hd,hdn⟩:∃d:Nat,(m:Int) / (k:Int)=(d:Int)∧d≤m:=⟨m / k,by simp,Nat.div_le_self m k⟩
   have hw:=Zp ((m:Int) / (k:Int)) (by rw [hd];omega)
   clear hd hdn d
   have i1:=Zp ((i:Int)+(m:Int)) (by omega)
   have i2:=Zp ((i:Int)+(m:Int)-(k:Int)) (by omega)
   by_cases hlt:i+m<n
   ·have q1:(i:Int)+(m:Int)<(n:Int):=by omega
    have e1:(i:Int)+(m:Int)=((i+m:Nat):Int):=by omega
    have e2:(i:Int)+(m:Int)-(k:Int)=((i+m-k:Nat):Int):=by omega
    have q2:(0:Int)≤(i:Int)+(m:Int):=by omega
    have q3:(0:Int)≤(i:Int)+(m:Int)-(k:Int):=by omega
    have q4:(i:Int)+(m:Int)-(k:Int)<(n:Int):=by omega
    have q5:(k:Int)≤(i:Int)+(m:Int):=by omega
    obtain ⟨f,hf⟩:∃f,n-i-m=f+1:=⟨n-i-m-1,by omega⟩
    have hf2:n-i-(m+1)=f:=by omega
    have hq:=HQ.out
    rw [hf] at hq
    obtain ⟨b,off,A1,n1,c1,rfl,hlt1, -,d0,d1,v1,m1, -, -⟩:=(HRV.out.ext HE.out).at_ (k:=i+m) hlt
    obtain ⟨b2,off2,A2,n2,c2,e9, -, -,f0,f1,v2,m2, -, -⟩:=(HRV.out.ext HE.out).at_ (k:=i+m-k) (by omega)
    cases e9
    have HS:=Za (show decide (l.getD (i+m) ro0=l.getD (i+m-k) ro0)=(decide ((l.getD (i+m) ro0).back=(l.getD (i+m-k) ro0).back) && decide ((l.getD (i+m) ro0).cells=(l.getD (i+m-k) ro0).cells)) by
     generalize l.getD (i+m) ro0=x
     generalize l.getD (i+m-k) ro0=y
     obtain ⟨xb,xc⟩:=x
     obtain ⟨yb,yc⟩:=y
     simp)
    have HY:=Za (fun (h:l.getD (i+m) ro0=l.getD (i+m-k) ro0)=>show eqRun l k (n-i) i=(m+1)+eqRun l k (n-i-(m+1)) (i+(m+1)) by rw [hq,zir h,hf2,show i+(m+1)=i+m+1 by omega];omega)
    have HN:=Za (fun (h:¬l.getD (i+m) ro0=l.getD (i+m-k) ro0)=>show repT l i k=m / k by rw [repT,if_neg hki,HLL.out,hq,zkn h,Nat.add_zero])
    clear hq hf hf2 f
    obtain ⟨xb,hxb⟩:∃xb,(l.getD (i+m) ro0).back=xb:=⟨_,rfl⟩
    obtain ⟨yb,hyb⟩:∃yb,(l.getD (i+m-k) ro0).back=yb:=⟨_,rfl⟩
    obtain ⟨xc,hxc⟩:∃xc,(l.getD (i+m) ro0).cells=xc:=⟨_,rfl⟩
    obtain ⟨yc,hyc⟩:∃yc,(l.getD (i+m-k) ro0).cells=yc:=⟨_,rfl⟩
    have HS2:=HS.out
    rw [hxb,hyb,hxc,hyc] at HS2
    have HS:=Za HS2
    clear HS2
    rw [hxb] at d0
    rw [hyb] at f0
    rw [hxc] at v1
    rw [hyc] at v2
    have HV1:=Za v1
    have HV2:=Za v2
    have HM1:=Za m1
    clear v1 v2 m1 m2 hxb hyb hxc hyc
    have e3:((i:Int)+(m:Int)-(k:Int)).toNat=i+m-k:=by omega
    have e4:((i:Int)+(m:Int)).toNat=i+m:=by omega
    clear e1 e2
    by_cases hb:xb=yb
    ·subst hb
     have hbb:(xb==xb)=true:=by simp
     obtain ⟨z,hz⟩:∃z,decide (xc=yc)=z:=⟨_,rfl⟩
     have HZ:=Za hz
     have HS2:=HS.out
     rw [hz,Z8 rfl,Bool.true_and] at HS2
     have HS:=Za HS2
     clear HS2 hz
     go_wp2_with fail
     go_region_held3 (fun wx=>wx.cell? ⟨b,off+(i+m)*2,none⟩=some (.bool xb)∧wx.cell? ⟨b,off+(i+m-k)*2,none⟩=some (.bool xb)∧wx.cell? ⟨b,off+(i+m)*2+1,none⟩=some (.slice A1 n1 c1)∧wx.cell? ⟨b,off+(i+m-k)*2+1,none⟩=some (.slice A2 n2 c2)) (go_keep) (first
      | (go_at_call 68;((with_reducible refine (zjI n1 n2 c1 c2 A1 A2 xc yc _ (HV1.out.ext zx) (HV2.out.ext zx) HM1.out).mono ?_);rintro e w5 ⟨rfl,hq5⟩;rw [HZ.out];have hq9:Ext wa w5:=Zb zx hq5;obtain ⟨h1,h2,h3⟩:=hq9.facts;have d0':=(h1 _ _ hlt1).trans d0;have d1':=(h1 _ _ hlt1).trans d1;have f0':=(h1 _ _ hlt1).trans f0;have f1':=(h1 _ _ hlt1).trans f1)))
     all_goals
      cases z with
      | true =>
       go_wp2_with fail
       go_roundw
       case rel=>exact ⟨m+1,by go_num,by omega,Za (HY.out (of_decide_eq_true HS.out)),Za (HE.out.trans zx)⟩
       case measure=>simp [intOf] <;> omega
      | false =>
       go_wp2_with fail
       go_ret
       exact ⟨by rw [HN.out (of_decide_eq_false HS.out)];simp,HE.out.trans zx⟩
    ·have hbb:(xb==yb)=false:=by simpa using hb
     have HS2:=HS.out
     rw [ZS hb,Bool.false_and] at HS2
     have HN2:=Za (HN.out (of_decide_eq_false HS2))
     clear HS2 hb
     go_wp2_with fail
     go_quiet (fail)
     go_wp2_with fail
     go_ret
     exact ⟨by rw [HN2.out];simp,HE.out.trans zx⟩
   ·have q1:¬((i:Int)+(m:Int)<(n:Int)):=by omega
    have q2:decide ((i:Int)+(m:Int)<(n:Int))=false:=ZS q1
    have HN:=Za (show repT l i k=m / k by
     rw [repT,if_neg hki,HLL.out,HQ.out,show n-i-m=0 by omega]
     rfl)
    go_wp2_with fail
    go_quiet (fail)
    go_wp2_with fail
    go_ret
    exact ⟨by rw [HN.out];simp,HE.out.trans zx⟩
end Go.Proofs.YtkneghkbgingdaaGreatDoor
/- The finder of the shortest list: the walk of list. -/
namespace Go.Proofs.YtkneghkbgingdaaGreatDoor
set_option maxRecDepth 100000
open Go.RowKit Go.ChangeShapes Go.WideShapes Go.Joins
theorem zkQ (g n c:Nat) (A:Option Addr) (l:List St) (hn:n≤60) (hln:l.length=n) (hby:Bytes l) (hne:∀b off,A=some ⟨b,off,none⟩→b≠g):∀(M a m:Nat) (tab:Nat→Nat→Chc) (w:World),m≤M→1≤m→a+m≤n→Vec shSt w A n l→FAt w g n c A tab→(∀N,TabOk l tab N)→∀(ai mi:Int),ai=(a:Int)→mi=(m:Int) →
  Calls Tryz.prog 138 #[.pointer (some ⟨g,0,none⟩),.int .i64 ai,.int .i64 mi] w (ListR l g n c A 134 (mkT M (sub l a m)) w):=by
 intro M
 induction M with
 | zero=>intro a m tab w h0 h1;omega
 | succ M ih =>
  intro a m tab w hM h1 ham hv ht hok ai mi hai hmi
  subst hai
  subst hmi
  have IH:=Za ih
  have HV:=Za hv
  have HT:=Za ht
  have HOK:=Za hok
  have ha:a<60:=by omega
  have hm:m≤60:=by omega
  have q0:(0:Int)≤(a:Int):=by omega
  have q1:(a:Int)<60:=by omega
  have q2:(0:Int)≤(m:Int):=by omega
  have q3:(m:Int)<61:=by omega
  have hsn:=zdN (l:=l) (a:=a) (n:=m) (by omega) h1
  have hsl:=za8 (l:=l) (a:=a) (n:=m) (by omega)
  have hmd:=zig hsn
  rw [hsl] at hmd
  obtain ⟨zt,hzt,hzs⟩:=zfP
  have HZT:=Za hzt
  have HZS:=Za hzs
  clear ih hv ht hok hzt hzs
  go_enter Tryz.func138,Tryz.ntmps138
  go_upto_region 3 with (first
   | (go_at_call 166;((with_reducible refine (ziP g n c A l hn hln hne m a m tab _ (Zf _) h1 ham HV.out HT.out (HOK.out m) _ _ rfl rfl).mono ?_);rintro e w1 ⟨tab1,rfl,hq⟩;have HQ:=Za hq;have c0:=hq.at_.tb a m 0 ha hm (by omega);have c1:=hq.at_.tb a m 1 ha hm (by omega);have c2:=hq.at_.tb a m 2 ha hm (by omega);rw [hq.it] at c0 c1 c2;rw [Nat.add_zero] at c0;have z1:=hq.at_.lt;clear hq)))
  have hmk:mkT (M+1) (sub l a m)=if 0<(ch (sub l a m)).part then (mkT M ((sub l a m).take (ch (sub l a m)).part)).app (mkT M ((sub l a m).drop (ch (sub l a m)).part)) else if 0<(ch (sub l a m)).period then .cons (((sub l a m).length / (ch (sub l a m)).period:Nat):Int) st0 (mkT M ((sub l a m).take (ch (sub l a m)).period)) .nil else .cons ((sub l a m).length:Int) ((sub l a m).getD 0 st0) .nil .nil:=rfl
  obtain ⟨pt,hpt⟩:∃x,(ch (sub l a m)).part=x:=⟨_,rfl⟩
  obtain ⟨pd,hpd⟩:∃x,(ch (sub l a m)).period=x:=⟨_,rfl⟩
  have e1:fld (ch (sub l a m)) 1=pd:=hpd
  have e2:fld (ch (sub l a m)) 2=pt:=hpt
  rw [e1] at c1
  rw [e2] at c2
  rw [e1,e2]
  rw [hpt,hpd,hsl] at hmk
  rw [hpt,hpd] at hmd
  generalize hwb:World.alloc w1 _=wb
  have hbz:wb.heap.size=w1.heap.size+1:=by rw [←hwb];simp
  have b1:wb.cell? ⟨w1.heap.size,1,none⟩=some (.int .i64 (pd:Nat)):=by rw [←hwb];simp [go_sem]
  have b2:wb.cell? ⟨w1.heap.size,2,none⟩=some (.int .i64 (pt:Nat)):=by rw [←hwb];simp [go_sem]
  have HEB:=Za (show Ext w1 wb by rw [←hwb];exact (Zd _).alloc _)
  clear hwb c0 c1 c2
  have hb:(pt<m∧pd<m):=by
   rcases hmd with ⟨hx, -⟩ | ⟨h2,h3,h4, -⟩ | ⟨h2,h3,h4, -⟩
   ·rw [hx] at hpt hpd
    simp only at hpt hpd
    omega
   ·omega
   ·omega
  have hd2:0<pd→2≤pd:=by
   rcases hmd with ⟨hx, -⟩ | ⟨h2,h3,h4, -⟩ | ⟨h2,h3,h4, -⟩
   ·rw [hx] at hpd
    simp only at hpd
    omega
   ·omega
   ·omega
  have HW1:=Za (show Vec shSt wb A n l from (HV.out.far HQ.out.but hne).ext HEB.out)
  have HO1:=Za (HQ.out.all HOK.out)
  have HF1:=Za (HQ.out.at_.ext HEB.out)
  have hgw:g<w.heap.size:=HT.out.lt
  have hw1:w.heap.size≤w1.heap.size:=HQ.out.but.size
  have HBW:=Za (HQ.out.but.trans (But.of_ext HEB.out _))
  clear hmd hpt hpd e1 e2
  by_cases hp0:0<pt
  ·rw [if_pos hp0,zcY (by omega),zhb (by omega)] at hmk
   have hx1:=zdN (l:=l) (a:=a) (n:=pt) (by omega) (by omega)
   have hx2:=zdN (l:=l) (a:=a+pt) (n:=m-pt) (by omega) (by omega)
   have k1:=zeb M (sub l a pt) hx1 (by rw [za8 (by omega)];omega)
   have k2:=zeb M (sub l (a+pt) (m-pt)) hx2 (by rw [za8 (by omega)];omega)
   rw [za8 (by omega)] at k1 k2
   have HMK:=Za hmk
   have t1:((0:Int)<(pt:Int)):=by omega
   have i1:=Zp ((a:Int)+(pt:Int)) (by omega)
   have i2:=Zp ((m:Int)-(pt:Int)) (by omega)
   clear hmk hx1 hx2
   have E3:=Za (show (a:Int)+(pt:Int)=((a+pt:Nat):Int) by omega)
   have E4:=Za (show (m:Int)-(pt:Int)=((m-pt:Nat):Int) by omega)
   clear b1
   go_upto_region 4 with fail
   go_region_held3 (fun w'=>w'.cell? ⟨w1.heap.size,2,none⟩=some (.int .i64 (pt:Nat))) (go_keep)
    (first
     | (go_at_call 138;(first
      | ((with_reducible refine (IH.out (a+pt) (m-pt) _ _ (by omega) (by omega) (by omega) (HV2.out.ext zx) (HF2.out.ext zx) HO2.out _ _ E3.out E4.out).mono ?_);rintro e w3 ⟨v2,tab3,rfl,hf3,ho3,hb3,hw3⟩;have HF3:=Za hf3;have HO3:=Za ho3;have HB3:=Za ((But.of_ext zx (some g)).trans hb3:But (some g) w2 w3);have HN3:=Za (show OwnT w3 w2.heap.size 134 v2 (mkT M (sub l (a+pt) (m-pt))).cnt (mkT M (sub l (a+pt) (m-pt))) from hw3);have b4:=(But.cell (p:=⟨w1.heap.size,2,none⟩) HB3.out (by have:=HB2.out.size;show w1.heap.size<w2.heap.size;omega) (by intro e9;have e8:w1.heap.size=g:=(by simpa using e9);omega)).trans b3;clear hf3 ho3 hb3 hw3)
      | (((with_reducible refine (IH.out a pt _ _ (by omega) (by omega) (by omega) (HW1.out.ext zx) (HF1.out.ext zx) HO1.out _ _ rfl rfl).mono ?_);rintro e w2 ⟨v1,tab2,rfl,hf2,ho2,hb2,hw2⟩;have HF2:=Za hf2;have HO2:=Za ho2;have HB2:=Za ((But.of_ext zx (some g)).trans hb2:But (some g) wb w2);have HV2:=Za (HW1.out.far HB2.out hne);have HN2:=Za (show OwnT w2 wb.heap.size 134 v1 (mkT M (sub l a pt)).cnt (mkT M (sub l a pt)) from hw2);have b3:=(But.cell (p:=⟨w1.heap.size,2,none⟩) HB2.out (by show w1.heap.size<wb.heap.size;omega) (by intro e9;have e8:w1.heap.size=g:=(by simpa using e9);omega)).trans b2;clear hf2 ho2 hb2 hw2))))
     | (refine zdo (g:=g) 91 134 zt 56 (by rfl) (by rfl) Tryz.underlying91 HZT.out HZS.out (by omega) (by rfl) (by rfl) HN2.out HN3.out HB2.out HB3.out (by omega) (by omega) ?_;intro v' w4 hown4 hbut4 hkeep4;have b5:=(But.cell (p:=⟨w1.heap.size,2,none⟩) hbut4.out (by show w1.heap.size<wb.heap.size;omega) (by intro e9;have e8:w1.heap.size=g:=(by simpa using e9);omega)).trans b2))
   go_wp2
   go_ret
   rw [HMK.out]
   exact ⟨_,tab3,rfl,hkeep4.out _ _ _ _ HF3.out,HO3.out,HBW.out.trans hbut4.out,by rw [zfD];exact hown4.low (by omega)⟩
  have t1:¬((0:Int)<(pt:Int)):=by omega
  rw [if_neg hp0] at hmk
  by_cases hp1:0<pd
  ·rw [if_pos hp1,zcY (by omega)] at hmk
   have HMK:=Za hmk
   have t2:((0:Int)<(pd:Int)):=by omega
   have k1:=zeb M (sub l a pd) (zdN (l:=l) (by omega) (by omega)) (by rw [za8 (by omega)];omega)
   rw [za8 (by omega)] at k1
   have tz:¬pd=0:=by omega
   obtain ⟨q,hq⟩:∃q,m / pd=q:=⟨_,rfl⟩
   have td2:(m:Int) / (pd:Int)=(q:Int):=by rw [←hq];rfl
   have td:(m:Int).tdiv (pd:Int)=(q:Int):=by rw [Int.tdiv_eq_ediv_of_nonneg (by omega)];exact td2
   have hqm:q≤m:=by rw [←hq];exact Nat.div_le_self _ _
   have tw:=Zp (q:Int) (by omega)
   have HQ9:=Za hq
   clear hq
   clear hmk
   go_upto_region 6 with fail
   go_region_held3 (fun w'=>w'.cell? ⟨w1.heap.size,1,none⟩=some (.int .i64 (pd:Nat))) (go_keep)
    (first
     | (go_at_call 138;((with_reducible refine (IH.out a pd _ _ (by omega) (by omega) (by omega) (HW1.out.ext zx) (HF1.out.ext zx) HO1.out _ _ rfl rfl).mono ?_);rintro e w2 ⟨v1,tab2,rfl,hf2,ho2,hb2,hw2⟩;obtain ⟨A2,c2,rfl,hk2⟩:=zbG hw2 (by omega);have HF2:=Za hf2;have HO2:=Za ho2;have HB2:=Za ((But.of_ext zx (some g)).trans hb2:But (some g) wb w2);have HK2:=Za (show TvK w2 (fun b=>wb.heap.size≤b) A2 (mkT M (sub l a pd)).cnt (mkT M (sub l a pd)) from hk2);have b3:=(But.cell (p:=⟨w1.heap.size,1,none⟩) HB2.out (by show w1.heap.size<wb.heap.size;omega) (by intro e9;have e8:w1.heap.size=g:=(by simpa using e9);omega)).trans b1;clear hf2 ho2 hb2 hw2 hk2)))
   all_goals (go_wp2;go_ret;rw [HMK.out,HQ9.out];exact ⟨_,tab2,rfl,HF2.out.ext ((Zd _).alloc _),HO2.out,(HBW.out.trans HB2.out).trans (But.of_ext ((Zd _).alloc _) _),ziX w2 w.heap.size 134 (q:Int) 0 false 0 0 (by have:=HB2.out.size;omega) (by omega) (HK2.out.mono fun b _ hb=>by omega)⟩)
  have t2:¬((0:Int)<(pd:Int)):=by omega
  rw [if_neg hp1,zgh (by omega),Nat.add_zero] at hmk
  have HMK:=Za hmk
  have HBY:=Za (hby a (by omega))
  clear hmk hby
  obtain ⟨b,off,rfl,hb,hc⟩:=Sts.all HW1.out (by omega)
  obtain ⟨k1,k2,k3,k4⟩:=hc a (by omega)
  have g0:=HF1.out.hd
  have t3:(a:Int)<(n:Int):=by omega
  generalize hs:l.getD a st0=s at *
  obtain ⟨s1,s2,s3,s4⟩:=s
  simp only at k1 k2 k3 k4
  have n1:((a:Int)).toNat=a:=by omega
  go_wp2_with fail
  go_ret
  rw [HMK.out]
  exact ⟨_,tab1,rfl,HF1.out.ext ((Zd _).alloc _),HO1.out,HBW.out.trans (But.of_ext ((Zd _).alloc _) _),by
   rw [←hbz]
   exact ziX wb w.heap.size 134 (m:Int) s1 s2 s3 s4 (by omega) HBY.out (TvK.none_ _ _ _)⟩
end Go.Proofs.YtkneghkbgingdaaGreatDoor
