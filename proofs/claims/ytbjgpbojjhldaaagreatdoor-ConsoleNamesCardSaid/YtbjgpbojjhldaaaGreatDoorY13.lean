/- A script's state and a builder side by side. -/
import Derived.Test.YtbjgpbojjhldaaaGreatDoorY12
set_option maxHeartbeats 16000000
namespace Go.Proofs.YtbjgpbojjhldaaaGreatDoor
set_option maxRecDepth 100000
open Go.RowKit
theorem zf5 {T:TypeId} {B b S:Nat} {bs:List Value} {w w':World} (h:Lib.IsBuilderF T 5 B b bs w) (hb:But (some S) w w') (hS:NoB w S) (hne:b≠S):Lib.IsBuilderF T 5 B b bs w':=by
 have key:∀p,Lib.BuilderAtF T 5 B b p bs w->Lib.BuilderAtF T 5 B b p bs w':=by
  rintro p ⟨hB,v,hv,⟨hl,ho⟩,hn⟩
  refine ⟨hB,v,by rw [hb.block b (Zh.1 hv).1 (by simpa using hne)];exact hv,⟨hl,?_⟩,hn⟩
  rcases ho with ho | ⟨g,cap,cur,fz,e,hg,hh,hr⟩
  ·exact .inl ho
  ·have aa:g≠S:=fun e2=>by
    subst e2
    exact hS _ _ hh
   exact .inr ⟨g,cap,cur,fz,e,hg,by rw [hb.block g (Zh.1 hh).1 (by simpa using aa)];exact hh,hr⟩
 rcases h with h | h
 ·exact .inl (key _ h)
 ·exact .inr (key _ h)
theorem zjg {T:TypeId} {B b k o:Nat} {bs:List Value} {w:World} {v:Value} (h:Lib.IsBuilderF T 5 B b bs w) (hc:w.cell? ⟨k,o,none⟩=some v) (h1:∀p,v ≠ .pointer p) (h2:∀a n c,v ≠ .slice a n c):k≠b:=by
 rintro rfl
 have key:∀p,Lib.BuilderAtF T 5 B k (.pointer p) bs w->False:=by
  rintro p ⟨hB,u,hv,⟨hl,ho⟩,hn⟩
  have hu:∃a n c,u = .slice a n c:=by
   rcases ho with ⟨e, -⟩ | ⟨g,cap,cur,fz,e, -⟩
   ·exact ⟨_,_,_,e⟩
   ·exact ⟨_,_,_,e⟩
  obtain ⟨a,n,c,rfl⟩:=hu
  rw [cell_of_row _ k o _ T (0,0) hv] at hc
  match o,hc with
  | 0,hc=>injection hc with hc;exact h1 _ hc.symm
  | 1,hc=>injection hc with hc;exact h2 _ _ _ hc.symm
  | o+2,hc=>cases hc
 rcases h with h | h
 ·exact key _ h
 ·exact key _ h
theorem zaz {w w':World} {k:Nat} (h:w'.heap[k]?=w.heap[k]?) (o:Nat):w'.cell? ⟨k,o,none⟩=w.cell? ⟨k,o,none⟩:=by
 simp only [World.cell?,h]
theorem zc2 {w w':World} {k:Nat} (h:w'.heap[k]?=w.heap[k]?) (hn:NoB w k):NoB w' k:=fun c fz e=>hn c fz (by rw [<-h];exact e)
theorem StAt.kept {w w':World} {S b B:Nat} {T:TypeId} {bs:List Value} {st:Cs} (h:StAt w S st) (hb:Lib.IsBuilderF T 5 B b bs w) (hne:S≠b) (hz:w.heap.size<=w'.heap.size) (ho:Lib.OthersKept 5 (some b) w w'):StAt w' S st:=by
 obtain ⟨p,h1,h2⟩:=h.gauge
 obtain ⟨q,h3,h4⟩:=h.cloth
 have eS:=h.nb.kept h.lt hne ho
 refine ⟨Zi h.lt hz,⟨(World.frozen?_of_block (a:=⟨S,0,none⟩) eS).trans h.fz.1,(World.frozen?_of_block (a:=⟨S,1,none⟩) eS).trans h.fz.2⟩,⟨p,(zaz eS 0).trans h1,?_⟩,⟨q,(zaz eS 1).trans h3,?_⟩,zc2 eS h.nb⟩
 ·rcases st with ⟨g,c⟩
  rcases g with _ | ⟨a,b',c',d⟩
  ·exact h2
  ·obtain ⟨G,g1,g2,g3,g4,g5,g6,g7,g8⟩:=h2
   have hG:G≠b:=zjg hb g4 (by simp) (by simp)
   have eG:=g8.kept g3 hG ho
   exact ⟨G,g1,g2,Zi g3 hz,(zaz eG 0).trans g4,(zaz eG 1).trans g5,(zaz eG 2).trans g6,(zaz eG 3).trans g7,zc2 eG g8⟩
 ·rcases st with ⟨g,c⟩
  rcases c with _ | g9
  ·exact h4
  ·obtain ⟨G,k,off,c,g1,g2,g3,g4,g5,g6,g7,g8,g10,g11,g12,g13,g14⟩:=h4
   have hG:G≠b:=zjg hb g6 (by simp) (by simp)
   have eG:=g13.kept g3 hG ho
   obtain ⟨k',off',e9,hk,aa⟩:=zbC g11 g12
   cases e9
   have ab:k≠b:=zjg hb (aa 0 0 (by have:=g12.1;omega) (by have:=g12.2.2.1;omega)) (by simp) (by simp)
   have eK:=g14.kept g5 ab ho
   refine ⟨G,k,off,c,g1,g2,Zi g3 hz,g4,Zi g5 hz,(zaz eG 0).trans g6,(zaz eG 1).trans g7,(zaz eG 2).trans g8,g10,?_,g12,zc2 eG g13,zc2 eK g14⟩
   refine Vec.keep g11 hz fun b' off' e o=>?_
   cases e
   exact zaz eK o
end Go.Proofs.YtbjgpbojjhldaaaGreatDoor
/- How long the lists of numbers are that the console prints. -/
namespace Go.Proofs.YtbjgpbojjhldaaaGreatDoor
set_option maxRecDepth 100000
theorem zpq (c:UInt8) (m:Nat):∀(L:List (List UInt8)),(∀w∈L,w.length<=m)->(joinB c L).length<=(m+1)*L.length:=by
 intro L
 induction L with
 | nil=>intro _;simp [joinB]
 | cons x L ih =>
  intro h
  have h1:=h x (by simp)
  have h2:=ih (fun w hw=>h w (by simp [hw]))
  cases L with
  | nil=>simp only [joinB,Zk,List.length_nil];omega
  | cons y L =>
   rw [joinB,Zc,Zk,Zk (a:=x),Nat.mul_add,Nat.mul_one]
   omega
theorem zcd {n:Int} (h0 : -1000000000000<=n) (h1:n<=1000000000000):(itoaZ n).length<=14:=by
 have key:∀k:Nat,k<=1000000000000->(decD k).length<=13:=fun k hk=>zdi 20 12 k (by omega)
 unfold itoaZ
 split
 ·have:=key (-n).toNat (by omega)
  rw [Zk]
  omega
 ·have:=key n.toNat (by omega)
  omega
theorem zeJ {l:List Int} (hb:∀x∈l, -1000000000000<=x/\x<=1000000000000):(joinB 32 (l.map itoaZ)).length<=15*l.length:=by
 have h:=zpq 32 14 (l.map itoaZ) (fun w hw=>by
  obtain ⟨x,hx,rfl⟩:=List.mem_map.1 hw
  exact zcd (hb x hx).1 (hb x hx).2)
 rw [List.length_map] at h
 exact h
end Go.Proofs.YtbjgpbojjhldaaaGreatDoor
/- Bounds of the numbers that the console prints. -/
namespace Go.Proofs.YtbjgpbojjhldaaaGreatDoor
set_option maxRecDepth 100000
theorem zkt {num den:Int} (h0:0<=num) (h1:1<=den):0<=near num den:=Int.ediv_nonneg (by omega) (by omega)
theorem zhS {ok:Bool} {n m:Int} (h:ok=true->0<=n->0<=m):0<=(scaleG ok n 1000000 m 1000000).1/\(scaleG ok n 1000000 m 1000000).1<=1000000:=by
 cases ok with
 | false=>exact ⟨Int.le_refl _,by show (0:Int)<=1000000;decide⟩
 | true =>
  rw [scaleG,if_pos rfl,scaled]
  split
  ·rename_i hr
   have:=zbx hr
   split
   ·decide
   ·exact ⟨h rfl this.1,by simp only;omega⟩
  ·decide
theorem zbZ (a b c d n:Int):0<=(scaleG (gok a b c d) n 1000000 (near (n*a) b) 1000000).1/\(scaleG (gok a b c d) n 1000000 (near (n*a) b) 1000000).1<=1000000 :=
 zhS fun h h0=>by
  have h1:=zio h
  exact zkt (Int.mul_nonneg h0 (by omega)) (by omega)
theorem zgW (a b c d n:Int):0<=(scaleG (gok a b c d) n 1000000 (near (n*c) d) 1000000).1/\(scaleG (gok a b c d) n 1000000 (near (n*c) d) 1000000).1<=1000000 :=
 zhS fun h h0=>by
  have h1:=zio h
  exact zkt (Int.mul_nonneg h0 (by omega)) (by omega)
theorem zjI (a b c d x y z:Int):0<=(fitG (gok a b c d) a b x y z).1/\(fitG (gok a b c d) a b x y z).1<=1000000:=by
 cases hk:gok a b c d with
 | false=>exact ⟨Int.le_refl _,by show (0:Int)<=1000000;decide⟩
 | true =>
  have h1:=zio hk
  rw [fitG,if_pos rfl]
  split
  ·rename_i hr
   simp only [Zp] at hr
   have r1:=zbx hr.1.1
   have r2:=zbx hr.1.2
   have r3:=zbx hr.2
   split
   ·decide
   ·refine ⟨?_,by simp only;omega⟩
    simp only
    unfold fitN
    split
    ·have h2:0<=y*((2*(x*a-z*b)+y*b-1) / (2*(y*b))):=by
      have hyb:0<y*b:=Int.mul_pos (by omega) (by omega)
      exact Int.mul_nonneg (by omega) (Int.ediv_nonneg (by omega) (by omega))
     omega
    ·omega
  ·exact ⟨Int.le_refl _,by decide⟩
def Small (l:List Int):Prop:=∀x∈l, -1000000000000<=x/\x<=1000000000000
theorem zcz (a b r:Int):Small (lineL a b r)/\(lineL a b r).length<=2000:=by
 rw [lineL]
 split
 ·rename_i h
  have h1:=zoy h
  obtain ⟨m,rfl⟩:=Int.eq_ofNat_of_zero_le (show 0<=r by omega)
  refine ⟨fun x hx=>?_,by simp;omega⟩
  obtain ⟨i,hi,rfl⟩:=List.mem_map.1 hx
  have hi:=ZG.1 hi
  have h2:=zr5 (a:=a) (b:=b) (r:=m) (k:=i) (by omega) (by omega) (by omega) (by omega) (by omega) (by simp at hi;omega)
  have e:=zoX (a:=a) (b:=b) (r:=m) (k:=i) (by omega)
  show -1000000000000<=atV a b (m:Int) (i:Int)/\atV a b (m:Int) (i:Int)<=1000000000000
  rw [<-e]
  omega
 ·exact ⟨fun x hx=>(by cases hx),by simp⟩
theorem zdT (r c:Int):Small [(words r c).1,(words r c).2.1,(words r c).2.2]:=by
 have key:(0<=(words r c).1/\(words r c).1<=1000)/\(0<=(words r c).2.1/\(words r c).2.1<=1000)/\(0<=(words r c).2.2/\(words r c).2.2<=1000):=by
  rw [words]
  split
  ·rename_i h
   have h1:=zoI h
   have e1:=Int.emod_nonneg r (show c≠0 by omega)
   have e2:=Int.emod_lt_of_pos r (show 0<c by omega)
   have e3:0<=r / c:=Int.ediv_nonneg (by omega) (by omega)
   have e4:r / c<=r:=Int.ediv_le_self _ (by omega)
   simp only
   omega
  ·decide
 intro x hx
 simp only [Zx,List.not_mem_nil,or_false] at hx
 rcases hx with rfl | rfl | rfl <;> omega
theorem zdQ (n r:Int):Small (trnL n r)/\(trnL n r).length<=2000:=by
 rw [trnL]
 split
 ·rename_i h
  have h2:inR n 1 200=true/\inR r 0 (min n 50)=true:=by simpa [trnOk] using h
  have b1:=zaq h2.1
  have b2:=zaq h2.2
  refine ⟨fun x hx=>?_,by simp;omega⟩
  obtain ⟨i,hi,rfl⟩:=List.mem_map.1 hx
  have hi:=ZG.1 hi
  have hir:(i:Int)<r:=by omega
  rw [trnV]
  have p:=zbd (a:=n) (b:=2*(r-i)-1) (A:=200) (B:=99) (by omega) (by omega) (by omega) (by omega)
  have e3:0<=(n*(2*(r-i)-1)+r) / (2*r):=Int.ediv_nonneg (by omega) (by omega)
  have e4:(n*(2*(r-i)-1)+r) / (2*r)<=n*(2*(r-i)-1)+r:=Int.ediv_le_self _ (by omega)
  omega
 ·exact ⟨fun x hx=>(by cases hx),by simp⟩
theorem zfo (a b:Int):(joinL a b).length<=1000:=by
 rw [joinL]
 split
 ·rename_i h
  have h1:=zd0 h
  simp [secL]
  omega
 ·simp
theorem zdI (a b:Int):(Small (shXL (joinL a b) a b)/\(shXL (joinL a b) a b).length<=2000)/\(Small (shYL (joinL a b) a b)/\(shYL (joinL a b) a b).length<=2000):=by
 have hl:=zfo a b
 have hk:chkE (joinL a b) a b=0->1<=a/\a<=1000/\1<=b/\b<=1000:=fun h=>by
  rw [chkE] at h
  split at h
  ·rename_i h1
   exact zd0 h1
  ·cases h
 refine ⟨?_,?_⟩
 ·rw [shXL]
  split
  ·rename_i h
   have:=hk h
   refine ⟨fun x hx=>?_,by simp;omega⟩
   obtain ⟨j,_,rfl⟩:=List.mem_map.1 hx
   have:=znG (joinL a b) j
   omega
  ·exact ⟨fun x hx=>(by cases hx),by simp⟩
 ·rw [shYL]
  split
  ·rename_i h
   have:=hk h
   refine ⟨fun x hx=>?_,by simp;omega⟩
   obtain ⟨j,_,rfl⟩:=List.mem_map.1 hx
   have:=znG (joinL a b) j
   omega
  ·exact ⟨fun x hx=>(by cases hx),by simp⟩
end Go.Proofs.YtbjgpbojjhldaaaGreatDoor
/- number: what is read of the digits in front. -/
namespace Go.Proofs.YtbjgpbojjhldaaaGreatDoor
set_option maxRecDepth 100000
open Go.RowKit
theorem zrj {l:List UInt8} (h:headD 4 l=0):numR l=(-1,l):=by rw [numR,if_pos h]
theorem zrk {l:List UInt8} (h:headD 4 l≠0):numR l=((valD (l.take (headD 4 l)):Int),l.drop (headD 4 l)):=by rw [numR,if_neg h]
theorem zaw (l:List UInt8) (hl:l.length<=100000) (w:World) (hg:Glob w) :
  Calls Tryz.prog 186 #[.string ⟨l.toArray⟩] w fun e w'=>e = .returned (.tuple #[.int .i64 (numR l).1,.string ⟨(numR l).2.toArray⟩])/\Ext w w':=by
 have HG:=Za hg
 obtain ⟨ah,ai,ag⟩:=zbJ 4 l
 have HD:=Za ag
 have HP:=Za (fun k=>zd2 (k:=4) (l:=l) (n:=k))
 obtain ⟨N,hN⟩:∃N,headD 4 l=N:=⟨_,rfl⟩
 have HN:=Za hN
 rw [hN] at ah ai HD HP
 clear hg ag hN
 have hx0:=fun k=>zc5 l k
 have hxD:=zaY l N l.length (Zb _)
 go_enter Tryz.func186,Tryz.ntmps186
 go_wp2_with fail
 go_loopw [4] (fun i wr=>∃(k:Nat),i = .int .i64 k/\k<=N/\Hid (Ext w wr)) (fun i _=>N-(intOf i).toNat)
 case atStart=>exact ⟨0,rfl,ZK _,Za zx⟩
 case round =>
  obtain ⟨k,rfl,hk,HE⟩:=hrel
  have aa:=HP.out k hk
  by_cases hlt:k<N
  ·obtain ⟨h1,h2,h3⟩:=aa.1 hlt
   have h4:=zdZ h3
   have h5:=zcq l k
   clear aa h3
   have q0:(0:Int)<=(k:Int):=by omega
   have q1:(k:Int)<(l.length:Int):=by omega
   have q2:(k:Int)<4:=by omega
   generalize hc:l.getD k 0=c at *
   have q3:(48:Int)<=(c.toNat:Int):=by omega
   have q4:(c.toNat:Int)<=57:=by omega
   clear hc
   go_wp2_with fail
   go_roundw
   case rel=>exact ⟨k+1,by go_num,by omega,Za (by have:=HE.out;repeat (first|exact zr _|assumption|refine za ?_ _|refine zd ?_|refine zn ?_ _|refine zt ?_ (by assumption)))⟩
   case measure=>simp [intOf];omega
  ·obtain rfl:N=k:=by omega
   have ab:¬(N<4/\N<l.length/\isDg (l.getD N 0)=true):=fun h=>hlt (aa.2 h)
   by_cases hN0:N=0
   ·subst hN0
    have HR:=Za (zrj HN.out)
    have hz:(⟨l.toArray⟩:ByteArray).extract 0 0=⟨#[]⟩:=by rw [zc5];rfl
    by_cases hl4:0<4
    ·by_cases hll:0<l.length
     ·have h5:=zcq l 0
      have q0:(0:Int)<=(0:Int):=by omega
      have q1:(0:Int)<(l.length:Int):=by omega
      have q2:(0:Int)<4:=by omega
      have af:¬isDg (l.getD 0 0)=true:=fun h=>ab ⟨hl4,hll,h⟩
      generalize hc:l.getD 0 0=c at *
      have ad:c.toNat<48∨57<c.toNat:=by
       by_cases h6:c.toNat<48
       ·exact .inl h6
       ·right
        rcases ZX 57 c.toNat with h7 | h7
        ·exact h7
        ·exfalso
         apply af
         simp only [isDg,Zp,Zy,UInt8.le_iff_toNat_le]
         exact ⟨by simpa using Nat.le_of_not_lt h6,by simpa using h7⟩
      clear hc af ab aa
      rcases ad with h6 | h6
      ·have q3:(c.toNat:Int)<48:=by omega
       go_wp2_with (go_at_call 113;(((with_reducible refine (zbe _ (HG.out.ext (by have:=HE.out;repeat (first|exact zr _|assumption|refine za ?_ _|refine zd ?_|refine zn ?_ _|refine zt ?_ (by assumption))))).mono ?_);rintro e w1 ⟨⟨te,pe,rfl⟩,ac⟩)))
       go_ret2
       exact ⟨by rw [HR.out];rfl,by have:=HE.out;repeat (first|exact zr _|assumption|refine za ?_ _|refine zd ?_|refine zn ?_ _|refine zt ?_ (by assumption))⟩
      ·have q3:(57:Int)<(c.toNat:Int):=by omega
       have q4:(48:Int)<=(c.toNat:Int):=by omega
       go_wp2_with (go_at_call 113;(((with_reducible refine (zbe _ (HG.out.ext (by have:=HE.out;repeat (first|exact zr _|assumption|refine za ?_ _|refine zd ?_|refine zn ?_ _|refine zt ?_ (by assumption))))).mono ?_);rintro e w1 ⟨⟨te,pe,rfl⟩,ac⟩)))
       go_ret2
       exact ⟨by rw [HR.out];rfl,by have:=HE.out;repeat (first|exact zr _|assumption|refine za ?_ _|refine zd ?_|refine zn ?_ _|refine zt ?_ (by assumption))⟩
     ·have q1:¬((0:Int)<(l.length:Int)):=by omega
      clear aa ab
      go_wp2_with (go_at_call 113;(((with_reducible refine (zbe _ (HG.out.ext (by have:=HE.out;repeat (first|exact zr _|assumption|refine za ?_ _|refine zd ?_|refine zn ?_ _|refine zt ?_ (by assumption))))).mono ?_);rintro e w1 ⟨⟨te,pe,rfl⟩,ac⟩)))
      go_ret2
      exact ⟨by rw [HR.out];rfl,by have:=HE.out;repeat (first|exact zr _|assumption|refine za ?_ _|refine zd ?_|refine zn ?_ _|refine zt ?_ (by assumption))⟩
    ·have q2:¬((0:Int)<4):=by omega
     by_cases hll:0<l.length
     ·have q1:(0:Int)<(l.length:Int):=by omega
      clear aa ab
      go_wp2_with (go_at_call 113;(((with_reducible refine (zbe _ (HG.out.ext (by have:=HE.out;repeat (first|exact zr _|assumption|refine za ?_ _|refine zd ?_|refine zn ?_ _|refine zt ?_ (by assumption))))).mono ?_);rintro e w1 ⟨⟨te,pe,rfl⟩,ac⟩)))
      go_ret2
      exact ⟨by rw [HR.out];rfl,by have:=HE.out;repeat (first|exact zr _|assumption|refine za ?_ _|refine zd ?_|refine zn ?_ _|refine zt ?_ (by assumption))⟩
     ·have q1:¬((0:Int)<(l.length:Int)):=by omega
      clear aa ab
      go_wp2_with (go_at_call 113;(((with_reducible refine (zbe _ (HG.out.ext (by have:=HE.out;repeat (first|exact zr _|assumption|refine za ?_ _|refine zd ?_|refine zn ?_ _|refine zt ?_ (by assumption))))).mono ?_);rintro e w1 ⟨⟨te,pe,rfl⟩,ac⟩)))
      go_ret2
      exact ⟨by rw [HR.out];rfl,by have:=HE.out;repeat (first|exact zr _|assumption|refine za ?_ _|refine zd ?_|refine zn ?_ _|refine zt ?_ (by assumption))⟩
   ·have HR:=Za (zrk (l:=l) (by rw [HN.out];exact hN0))
    rw [HN.out] at HR
    have ae:=Za (fun w'=>zdc (l.take N) (by rw [Zw];omega) HD.out (fun e=>by have h9:=congrArg List.length e;rw [Zw,List.length_nil] at h9;omega) w')
    have hp:(0:Int)<(N:Int):=by omega
    generalize valD (l.take N)=V at *
    generalize l.drop N=R at *
    by_cases hl4:N<4
    ·by_cases hll:N<l.length
     ·have h5:=zcq l N
      have q0:(0:Int)<=(N:Int):=by omega
      have q1:(N:Int)<(l.length:Int):=by omega
      have q2:(N:Int)<4:=by omega
      have af:¬isDg (l.getD N 0)=true:=fun h=>ab ⟨hl4,hll,h⟩
      generalize hc:l.getD N 0=c at *
      have ad:c.toNat<48∨57<c.toNat:=by
       by_cases h6:c.toNat<48
       ·exact .inl h6
       ·right
        rcases ZX 57 c.toNat with h7 | h7
        ·exact h7
        ·exfalso
         apply af
         simp only [isDg,Zp,Zy,UInt8.le_iff_toNat_le]
         exact ⟨by simpa using Nat.le_of_not_lt h6,by simpa using h7⟩
      clear hc af ab aa
      rcases ad with h6 | h6
      ·have q3:(c.toNat:Int)<48:=by omega
       go_wp2_with (go_at_call 113;(((with_reducible refine (ae.out _).mono ?_);rintro e w1 ⟨rfl,ac⟩)))
       go_wp2
       go_quiet (fail)
       go_wp2
       go_ret2
       exact ⟨by rw [HR.out];rfl,by have:=HE.out;repeat (first|exact zr _|assumption|refine za ?_ _|refine zd ?_|refine zn ?_ _|refine zt ?_ (by assumption))⟩
      ·have q3:(57:Int)<(c.toNat:Int):=by omega
       have q4:(48:Int)<=(c.toNat:Int):=by omega
       go_wp2_with (go_at_call 113;(((with_reducible refine (ae.out _).mono ?_);rintro e w1 ⟨rfl,ac⟩)))
       go_wp2
       go_quiet (fail)
       go_wp2
       go_ret2
       exact ⟨by rw [HR.out];rfl,by have:=HE.out;repeat (first|exact zr _|assumption|refine za ?_ _|refine zd ?_|refine zn ?_ _|refine zt ?_ (by assumption))⟩
     ·have q1:¬((N:Int)<(l.length:Int)):=by omega
      clear aa ab
      go_wp2_with (go_at_call 113;(((with_reducible refine (ae.out _).mono ?_);rintro e w1 ⟨rfl,ac⟩)))
      go_wp2
      go_quiet (fail)
      go_wp2
      go_ret2
      exact ⟨by rw [HR.out];rfl,by have:=HE.out;repeat (first|exact zr _|assumption|refine za ?_ _|refine zd ?_|refine zn ?_ _|refine zt ?_ (by assumption))⟩
    ·have q2:¬((N:Int)<4):=by omega
     by_cases hll:N<l.length
     ·have q1:(N:Int)<(l.length:Int):=by omega
      clear aa ab
      go_wp2_with (go_at_call 113;(((with_reducible refine (ae.out _).mono ?_);rintro e w1 ⟨rfl,ac⟩)))
      go_wp2
      go_quiet (fail)
      go_wp2
      go_ret2
      exact ⟨by rw [HR.out];rfl,by have:=HE.out;repeat (first|exact zr _|assumption|refine za ?_ _|refine zd ?_|refine zn ?_ _|refine zt ?_ (by assumption))⟩
     ·have q1:¬((N:Int)<(l.length:Int)):=by omega
      clear aa ab
      go_wp2_with (go_at_call 113;(((with_reducible refine (ae.out _).mono ?_);rintro e w1 ⟨rfl,ac⟩)))
      go_wp2
      go_quiet (fail)
      go_wp2
      go_ret2
      exact ⟨by rw [HR.out];rfl,by have:=HE.out;repeat (first|exact zr _|assumption|refine za ?_ _|refine zd ?_|refine zn ?_ _|refine zt ?_ (by assumption))⟩
end Go.Proofs.YtbjgpbojjhldaaaGreatDoor
