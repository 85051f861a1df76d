/- console.list. -/
import Derived.Test.YtbjgpbojjhldaaaGreatDoorY17
set_option maxHeartbeats 16000000
namespace Go.Proofs.YtbjgpbojjhldaaaGreatDoor
set_option maxRecDepth 100000
open Go.RowKit
theorem zrd {A:List (List UInt8)} {x:List UInt8} {m k:Nat} (hk:A.length=k):(A++List.replicate (m+1) []).set k x=A++[x]++List.replicate m []:=by
 subst hk
 simp [List.replicate_succ]
theorem OwnV.putS {w:World} {B:Nat} {e:TypeId} {g n c k:Nat} {L:List (List UInt8)} (h:OwnV shStr w B e (.slice (some ⟨g,0,none⟩) n c) n L) (x:List UInt8) :
  OwnV shStr (w.setCell ⟨g,k,none⟩ (.string ⟨x.toArray⟩)) B e (.slice (some ⟨g,0,none⟩) n c) n (L.set k x):=by
 have h9:=(World.ownsRow.stored h k (.string ⟨x.toArray⟩)).1
 rw [zb7] at h9
 unfold OwnV
 rw [zb7,List.map_set]
 exact h9
theorem zaE (n c:Nat) (A:Option Addr) (l:List Int) (hn:n<=2000) (hb:∀x∈l, -1000000000000<=x/\x<=1000000000000) (w:World) (hg:Glob w) (hl:Ints w A n l) :
  Calls Tryz.prog 110 #[.slice A n c] w fun e w'=>e = .returned (.string ⟨(listV l).toArray⟩)/\Ext w w':=by
 have hj:(joinB 32 (l.map itoaZ)).length<=100000000:=by
  have h1:=zeJ hb
  have h2:=hl.1
  omega
 have HX:=Za hl
 have HG:=Za hg
 have ab:=hl.1
 have ae:=Za ab
 have aj:=Za hb
 have HJ:=Za hj
 have hv:listV l=joinB 32 (l.map itoaZ):=rfl
 rw [hv]
 clear hl hg hb hj hv ab
 go_enter Tryz.func110,Tryz.ntmps110
 go_wp2_with (at_make;(refine zav 31 9 (.string ⟨#[]⟩) 1 16 n w.heap.size (by rfl) (by rfl) Tryz.underlying31 za9 (by rfl) (by omega) (by omega) (Zb _) ?_;intro w1 af ak hlt1))
 have ap:=Za (show OwnV shStr w1 w.heap.size 9 (.slice (some ⟨w.heap.size,0,none⟩) n n) n ((l.take 0).map itoaZ++List.replicate (n-0) []) from by
  have h9:=af.out
  rw [show (Value.string ⟨#[]⟩).cells=#[.string ⟨#[]⟩] from rfl,Nat.mul_one,toList_madeCells_one] at h9
  unfold OwnV
  rw [zb7,List.take_zero,List.map_nil,List.nil_append,List.map_replicate,Nat.sub_zero]
  exact h9)
 clear af
 go_loopw [11] (fun i wr=>∃k:Nat,i = .int .i64 k/\k<=n/\Hid (OwnV shStr wr w.heap.size 9 (.slice (some ⟨w.heap.size,0,none⟩) n n) n ((l.take k).map itoaZ++List.replicate (n-k) []))/\Hid (Ext w wr)) (fun i _=>n-(intOf i).toNat)
 case atStart=>exact ⟨0,rfl,ZK _,ap,ak⟩
 case round =>
  obtain ⟨k,rfl,hk,HO,HE⟩:=hrel
  by_cases hlt:k<n
  ·obtain ⟨b,off,rfl,hb,hc⟩:=(Ints.ext HX.out HE.out).2 (by omega)
   have c0:=hc k hlt
   have ac:k<l.length:=by rw [ae.out];exact hlt
   obtain ⟨x,hx⟩:∃x,l.getD k 0=x:=⟨_,rfl⟩
   rw [hx] at c0
   have hx2:l[k]=x:=by rw [<-hx,Zd,Zf ac];rfl
   have ad:=aj.out x (by rw [<-hx2];exact List.getElem_mem ac)
   have HI:=Za (fun w' (h:Ext w w')=>zce x ad.1 ad.2 w' (HG.out.ext h))
   have ah:=Za (show (l.take (k+1)).map itoaZ=(l.take k).map itoaZ++[itoaZ x] by rw [List.take_succ_eq_append_getElem ac,List.map_append,hx2];rfl)
   obtain ⟨t,ht⟩:∃t,itoaZ x=t:=⟨_,rfl⟩
   rw [ht] at HI ah
   obtain ⟨m,hm⟩:∃m,n-k=m+1:=⟨n-k-1,by omega⟩
   have HM:=Za (show n-(k+1)=m by omega)
   have q0:(0:Int)<=(k:Int):=by omega
   have q1:(k:Int)<(n:Int):=by omega
   have ai:((l.take k).map itoaZ).length=k:=by rw [List.length_map,Zw];omega
   have aq:=Za (fun w' (h:Ext wr w')=>by
    have h9:=OwnV.putS (k:=k) (HO.out.ext h) t
    rw [hm,zrd ai,<-ah.out] at h9
    exact h9)
   have hown:=HO.out
   clear ht hm hx hx2 ad ai hc ac
   go_wp2_with (go_at_call 36;((with_reducible refine (HI.out _ (HE.out.trans zx)).mono ?_);rintro e w3 ⟨rfl,aa⟩;have al:=Za (show Ext w w3 from HE.out.trans aa);have ag:=Za (aq.out _ aa);have hfz:=World.ownsRow.frozenAt (HO.out.ext aa) k;have hrc:=(RowV.of_own (size:=1) (HO.out.ext aa)).at_ (j:=k) (by omega);clear aa))
   rw [<-HM.out] at ag
   refine ⟨⟨k+1,by go_num,by omega,ag,Za (Ext.set al.out (p:=⟨w.heap.size,k,none⟩) (Zb _) _)⟩,?_⟩
   simp [intOf]
   omega
  ·obtain rfl:k=n:=by omega
   have am:=Za (show OwnV shStr wr w.heap.size 9 (.slice (some ⟨w.heap.size,0,none⟩) k k) k (l.map itoaZ) from by
    have h9:=HO.out
    rw [Nat.sub_self,List.replicate_zero,ZF,Zs (by rw [ae.out];exact Zb _)] at h9
    exact h9)
   have ao:=Za (zhx w.heap.size k k _ _ 32 9 wr am.out HJ.out (by omega))
   go_wp2_with (go_at_call 85;((with_reducible refine ao.out.mono ?_);rintro e w3 ⟨rfl,aa⟩))
   go_ret
   exact ⟨rfl,HE.out.trans aa⟩
end Go.Proofs.YtbjgpbojjhldaaaGreatDoor
/- The contract of list: so many elements that a function value makes. -/
namespace Go.Proofs.YtbjgpbojjhldaaaGreatDoor
set_option maxRecDepth 100000
open Go.RowKit
theorem ziU:(Tryz.prog.info? 3).map (fun i=>(i.zero,i.size,i.bytes))=some (some (.int .i64 0),1,8):=by kernel_rfl
theorem ziW (n K:Nat) (caps:Array Value) (g:Nat->Int) (I:Nat->World->Prop) (E:Option Nat) (w:World) (hn:n<=2000)
  (hK:∀args w,(callFunc K args).run Tryz.prog w = .ok (.enter K args) w) (hE:∀k,E=some k->k<w.heap.size) (hI:I 0 w) (hst:∀i w1 w2,I i w1->Below w.heap.size w1 w2->I i w2)
  (hcl:∀(i:Nat) (w1:World),i<n->I i w1->w.heap.size<=w1.heap.size->Calls Tryz.prog K (#[.int .i64 i]++caps) w1 fun e w2=>e = .returned (.int .i64 (g i))/\I (i+1) w2/\But E w1 w2) :
  Calls Tryz.prog 154 #[.int .i64 n,.func (.func K) #[] caps] w
   fun e w'=>∃A c,e = .returned (.slice A n c)/\Ints w' A n ((List.range n).map g)/\I n w'/\But E w w':=by
 obtain ⟨i0,hi,ak,hz1,aj⟩:=info_parts ziU
 have HE:=Za hE
 have HK:=Za hK
 have HI:=Za hI
 have HS:=Za hst
 have HC:=Za hcl
 clear hE hK hI hst hcl
 go_enter Tryz.func154,Tryz.ntmps154
 go_wp2_with (at_make;refine wpList_make_full _ rfl _ _ 51 rfl w.heap.size 3 i0 (.int .i64 0) 1 Tryz.underlying51 hi ak hz1 _ _ _ _ n rfl rfl rfl rfl (by rw [aj];omega) (by unfold maxLen;omega) (Zb _) ?_;intro w1 aa ae)
 have ab:=RowV.made (Value.int .i64 0) rfl aa
 have HR:=Za (show RowV w1 w.heap.size n (fun j => .int .i64 (if j<0 then g j else 0)) from ab.congr (fun j _=>by simp))
 have ah:=Za (HS.out 0 w w1 HI.out (But.below ae (Zb _) (by simp)))
 have HB:=Za (show But E w w1 from But.of_ext (But.ext_none ae) E)
 clear ab aa ae HI
 go_loopw [10] (fun v wr=>∃k:Nat,k<=n/\v = .int .i64 k/\Hid (RowV wr w.heap.size n (fun j => .int .i64 (if j<k then g j else 0)))/\Hid (I k wr)/\Hid (But E w wr)) (fun v _=>n-(intOf v).toNat)
 case atStart=>exact ⟨0,by omega,rfl,HR,ah,HB⟩
 case round =>
  obtain ⟨k,hk,rfl,af,ag,ac⟩:=hrel
  clear HR ah HB
  by_cases hlt:k<n
  ·go_wp2_with fail
   rw [HK.out,Oper.upon_enter]
   refine (HC.out k wr hlt ag.out (But.size ac.out)).mono ?_
   rintro e w2 ⟨rfl,ai,ad⟩
   have hne:some w.heap.size≠E:=fun h=>by have:=HE.out _ h.symm;omega
   have R2:=RowV.but af.out ad hne
   have hc2:=R2.at_ hlt
   have hf2:=R2.free hlt
   have aj:=R2.lt
   have R3:=Za ((R2.set hlt (.int .i64 (g k))).congr (f':=fun j => .int .i64 (if j<k+1 then g j else 0)) (fun j hj=>by
    by_cases e:j=k
    ·subst e;simp
    ·simp only [if_neg e]
     by_cases e2:j<k
     ·rw [if_pos e2,if_pos (by omega)]
     ·rw [if_neg e2,if_neg (by omega)]))
   have B3:=Za ((ac.out.trans ad).setCell (p:=⟨w.heap.size,k,none⟩) (Zb _) (.int .i64 (g k)))
   have I3:=Za (HS.out (k+1) w2 (w2.setCell ⟨w.heap.size,k,none⟩ (.int .i64 (g k))) ai ((Below.refl w.heap.size w2).setCell (p:=⟨w.heap.size,k,none⟩) (Zb _) _))
   clear R2 ai ad af ag ac
   go_wp2
   go_roundw
   case rel=>exact ⟨k+1,by omega,by go_num,R3,I3,B3⟩
   case measure=>simp [intOf];omega
  ·obtain rfl:k=n:=by omega
   go_wp2
   go_ret
   refine ⟨_,_,rfl,?_,ag.out,ac.out⟩
   have:=Ints.of_row (f:=fun j=>if j<k then g j else 0) af.out
   rwa [show (List.range k).map (fun j=>if j<k then g j else 0)=(List.range k).map g from List.map_congr_left (fun j hj=>if_pos (ZG.1 hj))] at this
theorem zqV (K:Nat) (h:((Tryz.prog.funcs[K]?).map fun f=>(f.name == "runtime.NumGoroutine",f.body.isNone))=some (false,false)):∀args w,(callFunc K args).run Tryz.prog w = .ok (.enter K args) w:=by
 intro args w
 obtain ⟨f,hf,h2⟩:=ZS.1 h
 simp only [Prod.mk.injEq] at h2
 simp [callFunc,hf]
 rw [if_neg (by simpa using h2.1),if_neg (by intro e;simp [e] at h2)]
end Go.Proofs.YtbjgpbojjhldaaaGreatDoor
/- The contracts of the functions of slope. -/
namespace Go.Proofs.YtbjgpbojjhldaaaGreatDoor
set_option maxRecDepth 100000
open Go.RowKit
theorem zat (n lo hi:Int) (w:World) :
  Calls Tryz.prog 195 #[.int .i64 n,.int .i64 lo,.int .i64 hi] w fun e w'=>e = .returned (.bool (inR n lo hi))/\w=w':=by
 by_cases h:lo<=n
 ·go_enter Tryz.func195,Tryz.ntmps195
  go_wp2
  go_ret
  exact ⟨by simp [inR,h],rfl⟩
 ·go_enter Tryz.func195,Tryz.ntmps195
  go_wp2
  go_ret
  exact ⟨by rw [zj5 (by omega)];rfl,rfl⟩
theorem zcP (rows changes:Int) (w:World) :
  Calls Tryz.prog 157 #[.int .i64 rows,.int .i64 changes] w fun e w'=>e = .returned (.int .i64 (spE rows changes))/\w=w':=by
 cases h1:inR rows 1 1000
 ·go_enter Tryz.func157,Tryz.ntmps157
  go_wp2_with (go_at_call 195;refine (zat _ _ _ _).mono ?_;rintro e w2 ⟨rfl,rfl⟩)
  go_ret
  exact ⟨by simp [spE,spOk,h1],rfl⟩
 ·cases h2:inR changes 1 rows
  ·go_enter Tryz.func157,Tryz.ntmps157
   go_wp2_with (go_at_call 195;refine (zat _ _ _ _).mono ?_;rintro e w2 ⟨rfl,rfl⟩)
   go_ret
   exact ⟨by simp [spE,spOk,h1,h2],rfl⟩
  ·go_enter Tryz.func157,Tryz.ntmps157
   go_wp2_with (go_at_call 195;refine (zat _ _ _ _).mono ?_;rintro e w2 ⟨rfl,rfl⟩)
   go_ret
   exact ⟨by simp [spE,spOk,h1,h2],rfl⟩
theorem zdJ (a b rows:Int) (w:World) :
  Calls Tryz.prog 153 #[.int .i64 a,.int .i64 b,.int .i64 rows] w fun e w'=>e = .returned (.int .i64 (lnE a b rows))/\w=w':=by
 cases h1:inR a (-1000) 1000
 ·go_enter Tryz.func153,Tryz.ntmps153
  go_wp2_with (go_at_call 195;refine (zat _ _ _ _).mono ?_;rintro e w2 ⟨rfl,rfl⟩)
  go_ret
  exact ⟨by simp [lnE,lnOk,h1],rfl⟩
 ·cases h2:inR b (-1000) 1000
  ·go_enter Tryz.func153,Tryz.ntmps153
   go_wp2_with (go_at_call 195;refine (zat _ _ _ _).mono ?_;rintro e w2 ⟨rfl,rfl⟩)
   go_ret
   exact ⟨by simp [lnE,lnOk,h1,h2],rfl⟩
  ·cases h3:inR rows 1 1000
   ·go_enter Tryz.func153,Tryz.ntmps153
    go_wp2_with (go_at_call 195;refine (zat _ _ _ _).mono ?_;rintro e w2 ⟨rfl,rfl⟩)
    go_ret
    exact ⟨by simp [lnE,lnOk,h1,h2,h3],rfl⟩
   ·go_enter Tryz.func153,Tryz.ntmps153
    go_wp2_with (go_at_call 195;refine (zat _ _ _ _).mono ?_;rintro e w2 ⟨rfl,rfl⟩)
    go_ret
    exact ⟨by simp [lnE,lnOk,h1,h2,h3],rfl⟩
theorem zqH (a b rows i:Int) (w:World) (a0 : -1000<=a) (a1:a<=1000) (b0 : -1000<=b) (b1:b<=1000) (r0:1<=rows) (r1:rows<=1000) (i0:0<=i) (i1:i<=rows) :
  Calls Tryz.prog 156 #[.int .i64 a,.int .i64 b,.int .i64 rows,.int .i64 i] w fun e w'=>e = .returned (.int .i64 (atV a b rows i))/\w=w':=by
 obtain ⟨p0,p1⟩:=zbd (show 0<=a+1000 by omega) (show a+1000<=2000 by omega) (show 0<=rows-i by omega) (show rows-i<=1000 by omega)
 obtain ⟨q0,q1⟩:=zbd (show 0<=b+1000 by omega) (show b+1000<=2000 by omega) i0 (show i<=1000 by omega)
 have d0:0<=(2*((a+1000)*(rows-i)+(b+1000)*i)+rows) / (2*rows):=Int.ediv_nonneg (by omega) (by omega)
 have d1:(2*((a+1000)*(rows-i)+(b+1000)*i)+rows) / (2*rows)<=2*((a+1000)*(rows-i)+(b+1000)*i)+rows:=Int.ediv_le_self _ (by omega)
 go_enter Tryz.func156,Tryz.ntmps156
 go_wp2
 go_ret
 exact ⟨rfl,rfl⟩
theorem zki (i:Nat) (a b rows:Int) (a1 a2 a3:Addr) (w:World) (h1:w.cell? a1=some (.int .i64 a)) (h2:w.cell? a2=some (.int .i64 b)) (h3:w.cell? a3=some (.int .i64 rows))
  (a0 : -1000<=a) (a1':a<=1000) (b0 : -1000<=b) (b1:b<=1000) (r0:1<=rows) (r1:rows<=1000) (i1:(i:Int)<=rows) :
  Calls Tryz.prog 155 #[.int .i64 i,.pointer (some a1),.pointer (some a2),.pointer (some a3)] w fun e w'=>e = .returned (.int .i64 (atV a b rows i))/\w=w':=by
 go_enter Tryz.func155,Tryz.ntmps155
 go_wp2_with (go_at_call 156;refine (zqH _ _ _ _ _ a0 a1' b0 b1 r0 r1 (by omega) i1).mono ?_;rintro e w2 ⟨rfl,rfl⟩)
 go_ret
 exact ⟨rfl,rfl⟩
end Go.Proofs.YtbjgpbojjhldaaaGreatDoor
/- The contracts of Marks,Gaps,Words,Line,Even and Steps. -/
namespace Go.Proofs.YtbjgpbojjhldaaaGreatDoor
set_option maxRecDepth 100000
open Go.RowKit
theorem zr6 (w:World) (x y z:Value) (t:TypeId):(((w.alloc (.cells #[x] t)).alloc (.cells #[y] t)).alloc (.cells #[z] t)).cell? ⟨w.heap.size,0,none⟩=some x/\(((w.alloc (.cells #[x] t)).alloc (.cells #[y] t)).alloc (.cells #[z] t)).cell? ⟨w.heap.size+1,0,none⟩=some y/\(((w.alloc (.cells #[x] t)).alloc (.cells #[y] t)).alloc (.cells #[z] t)).cell? ⟨w.heap.size+2,0,none⟩=some z/\(((w.alloc (.cells #[x] t)).alloc (.cells #[y] t)).alloc (.cells #[z] t)).frozen? ⟨w.heap.size+2,0,none⟩=false:=by
 refine ⟨?_,?_,?_,?_⟩ <;> simp [go_sem]
theorem zkj (a b:Int) (r:Nat) (w:World) (a0 : -1000<=a) (a1:a<=1000) (b0 : -1000<=b) (b1:b<=1000) (r0:1<=r) (r1:r<=1000) :
  Calls Tryz.prog 154 #[.int .i64 ((r:Int)+1),.func (.func 155) #[] #[.pointer (some ⟨w.heap.size,0,none⟩),.pointer (some ⟨w.heap.size+1,0,none⟩),.pointer (some ⟨w.heap.size+2,0,none⟩)]] (((w.alloc (.cells #[.int .i64 a] 3)).alloc (.cells #[.int .i64 b] 3)).alloc (.cells #[.int .i64 r] 3))
   fun e w'=>∃A cap,e = .returned (.slice A (r+1) cap)/\Ints w' A (r+1) ((List.range (r+1)).map (fun i:Nat=>atV a b r (i:Int)))/\Ext w w':=by
 have h:=ziW (r+1) 155 #[.pointer (some ⟨w.heap.size,0,none⟩),.pointer (some ⟨w.heap.size+1,0,none⟩),.pointer (some ⟨w.heap.size+2,0,none⟩)] (fun i:Nat=>atV a b r (i:Int))
  (fun _ w1=>w1.cell? ⟨w.heap.size,0,none⟩=some (.int .i64 a)/\w1.cell? ⟨w.heap.size+1,0,none⟩=some (.int .i64 b)/\w1.cell? ⟨w.heap.size+2,0,none⟩=some (.int .i64 r)) none (((w.alloc (.cells #[.int .i64 a] 3)).alloc (.cells #[.int .i64 b] 3)).alloc (.cells #[.int .i64 r] 3)) (by omega) (zqV _ (by kernel_rfl)) (by simp)
  (by have:=zr6 w (.int .i64 a) (.int .i64 b) (.int .i64 r) 3;exact ⟨this.1,this.2.1,this.2.2.1⟩)
  (fun i w1 w2 hI hb=>⟨(hb.cell (p:=⟨w.heap.size,0,none⟩) (by simp;omega)).trans hI.1,(hb.cell (p:=⟨w.heap.size+1,0,none⟩) (by simp)).trans hI.2.1,(hb.cell (p:=⟨w.heap.size+2,0,none⟩) (by simp)).trans hI.2.2⟩)
  (fun i w1 hi hI _=>(zki i a b r _ _ _ w1 hI.1 hI.2.1 hI.2.2 a0 a1 b0 b1 (by omega) (by omega) (by omega)).mono fun e w2 ⟨h1,h2⟩=>⟨h1,h2 ▸ hI,h2 ▸ But.refl _ _⟩)
 rw [show ((r+1:Nat):Int)=(r:Int)+1 by omega] at h
 exact h.mono fun e w' ⟨A,cap,h1,h2,_,h4⟩=>⟨A,cap,h1,h2,((((Ze w).alloc _).alloc _).alloc _).trans h4.ext_none⟩
theorem ziV (a b rows:Int) (w:World) :
  Calls Tryz.prog 115 #[.int .i64 a,.int .i64 b,.int .i64 rows] w
   fun e w'=>∃A cap,e = .returned (.tuple #[.slice A (lineL a b rows).length cap,.int .i64 (lnE a b rows)])/\Ints w' A (lineL a b rows).length (lineL a b rows)/\Ext w w':=by
 cases h:lnOk a b rows
 ·have he:lnE a b rows=2:=by simp [lnE,h]
  have HL:=Za (show lineL a b rows=[] by simp [lineL,h])
  go_enter Tryz.func115,Tryz.ntmps115
  go_wp2_with (go_at_call 153;refine (zdJ _ _ _ _).mono ?_;rintro e w2 ⟨rfl,rfl⟩)
  go_ret2
  exact ⟨none,0,by rw [HL.out,he];rfl,by rw [HL.out];exact Ints.none_ _ _,by repeat (first | exact Ze _ | refine ZD ?_ _ | refine ZR ?_ | refine Ext.drewN ?_ _ | refine Zm ?_ (by assumption))⟩
 ·obtain ⟨a0,a1,b0,b1,r0,r1⟩:=zoy h
  obtain ⟨r,rfl⟩:=Int.eq_ofNat_of_zero_le (show 0<=rows by omega)
  have he:lnE a b r=0:=by simp [lnE,h]
  have HL:=Za (show lineL a b r=(List.range (r+1)).map (fun i:Nat=>atV a b r (i:Int)) by simp [lineL,h])
  go_enter Tryz.func115,Tryz.ntmps115
  go_wp2_with (first | (go_at_call 153;refine (zdJ _ _ _ _).mono ?_;rintro e w2 ⟨rfl,rfl⟩) | (go_at_call 154;refine (zkj a b r w a0 a1 b0 b1 (by omega) (by omega)).mono ?_;rintro e w3 ⟨A,cap,rfl,hi,hb⟩))
  go_ret2
  exact ⟨A,cap,by rw [HL.out,List.length_map,List.length_range,he];rfl,by rw [HL.out,List.length_map,List.length_range];exact hi,hb⟩
theorem zgZ (rows changes:Int) (w:World) :
  Calls Tryz.prog 116 #[.int .i64 rows,.int .i64 changes] w
   fun e w'=>e = .returned (.tuple #[.agg #[.int .i64 (words rows changes).1,.int .i64 (words rows changes).2.1,.int .i64 (words rows changes).2.2],.int .i64 (spE rows changes)])/\Ext w w':=by
 cases h:spOk rows changes
 ·have he:spE rows changes=2:=by simp [spE,h]
  have HL:=Za (show words rows changes=(0,0,0) by simp [words,h])
  go_enter Tryz.func116,Tryz.ntmps116
  go_wp2_with (go_at_call 157;refine (zcP _ _ _).mono ?_;rintro e w2 ⟨rfl,rfl⟩)
  exact bodyPost_ret (v := .tuple #[.agg #[.int .i64 0,.int .i64 0,.int .i64 0],.int .i64 2]) (by simp [results,Tryz.results116,go_sem]) rfl ⟨by rw [HL.out,he],by repeat (first | exact Ze _ | refine ZD ?_ _ | refine ZR ?_ | refine Ext.drewN ?_ _ | refine Zm ?_ (by assumption))⟩
 ·obtain ⟨r0,r1,c0,c1⟩:=zoI h
  have he:spE rows changes=0:=by simp [spE,h]
  have HL:=Za (show words rows changes=(rows / changes,changes-rows % changes,rows % changes) by simp [words,h])
  have m0:=Int.emod_nonneg rows (show changes≠0 by omega)
  have m1:=Int.emod_lt_of_pos rows (show 0<changes by omega)
  go_enter Tryz.func116,Tryz.ntmps116
  go_wp2_with (go_at_call 157;refine (zcP _ _ _).mono ?_;rintro e w2 ⟨rfl,rfl⟩)
  go_region
  all_goals
   go_wp2
   exact bodyPost_ret (v := .tuple #[.agg #[.int .i64 (rows / changes),.int .i64 (changes-rows % changes),.int .i64 (rows % changes)],.int .i64 0]) (by simp [results,Tryz.results116,go_sem]) rfl ⟨by rw [HL.out,he],by repeat (first | exact Ze _ | refine ZD ?_ _ | refine ZR ?_ | refine Ext.drewN ?_ _ | refine Zm ?_ (by assumption))⟩
end Go.Proofs.YtbjgpbojjhldaaaGreatDoor
/- Lists of pairs of numbers. -/
namespace Go.Proofs.YtbjgpbojjhldaaaGreatDoor
set_option maxRecDepth 100000
open Go.RowKit Go.ChangeShapes Go.WideShapes
def shPair:Shp (Int×Int) where
 size:=2
 cells p:=[.int .i64 p.1,.int .i64 p.2]
 pos:=by omega
 len _:=rfl
 one p u h:=by
  simp at h
  rcases h with h | h <;> subst h <;> rfl
theorem zj6:(Tryz.prog.info? 132).map (fun i=>(i.zero,i.size,i.bytes))=some (some (.agg #[.int .i64 0,.int .i64 0]),2,16):=by kernel_rfl
theorem Prs.at_ {w:World} {A:Option Addr} {n:Nat} {xs:List (Int×Int)} (h:Vec shPair w A n xs) {k:Nat} (hk:k<n) :
  ∃b off,A=some ⟨b,off,none⟩/\b<w.heap.size/\w.cell? ⟨b,off+k*2,none⟩=some (.int .i64 (xs.getD k (0,0)).1)/\w.cell? ⟨b,off+k*2+1,none⟩=some (.int .i64 (xs.getD k (0,0)).2):=by
 obtain ⟨b,off,e,hb,hc⟩:=h.2 (by omega)
 have hl:=h.1
 have hx:xs[k]?=some (xs.getD k (0,0)):=by
  rw [Zd,Zf (by omega)];rfl
 exact ⟨b,off,e,hb,hc k _ hx 0 _ rfl,hc k _ hx 1 _ rfl⟩
theorem Prs.all {w:World} {A:Option Addr} {n:Nat} {xs:List (Int×Int)} (h:Vec shPair w A n xs) (hn:0<n) :
  ∃b off,A=some ⟨b,off,none⟩/\b<w.heap.size/\∀k,k<n->w.cell? ⟨b,off+k*2,none⟩=some (.int .i64 (xs.getD k (0,0)).1)/\w.cell? ⟨b,off+k*2+1,none⟩=some (.int .i64 (xs.getD k (0,0)).2):=by
 obtain ⟨b,off,e,hb,hc⟩:=h.2 hn
 have hl:=h.1
 refine ⟨b,off,e,hb,fun k hk=>?_⟩
 have hx:xs[k]?=some (xs.getD k (0,0)):=by
  rw [Zd,Zf (by omega)];rfl
 exact ⟨hc k _ hx 0 _ rfl,hc k _ hx 1 _ rfl⟩
theorem znf (w:World) (x y:Int) (t:TypeId):∀j u,(shPair.cells (x,y))[j]?=some u->((w.alloc (.cells #[.int .i64 x,.int .i64 y] t)).drew).cell? ⟨w.heap.size,j,none⟩=some u:=by
 intro j u hj
 match j,hj with
 | 0,hj=>simp [shPair] at hj;subst hj;simp [go_sem]
 | 1,hj=>simp [shPair] at hj;subst hj;simp [go_sem]
def PrsE (w:World) (L:List (Int×Int)) (c:Int) (e:Ending) (w':World):Prop:=∃A cap,e = .returned (.tuple #[.slice A L.length cap,.int .i64 c])/\Vec shPair w' A L.length L/\Ext w w'
theorem PrsE.mk {w:World} {L:List (Int×Int)} {c:Int} {e:Ending} {w':World} (A:Option Addr) (cap:Nat) (h1:e = .returned (.tuple #[.slice A L.length cap,.int .i64 c])) (h2:Vec shPair w' A L.length L) (h3:Ext w w'):PrsE w L c e w':=⟨A,cap,h1,h2,h3⟩
section
variable {H:Type} {enc:TypeId×Value->H} {w:World} {base:Nat} {spare:Nat->Bool} {held:Bool}
end
theorem zcT (d:Nat) (x y u v:Int) (w:World):(Op.equalIn (d+2) 132 (.agg #[.int .i64 x,.int .i64 y]) (.agg #[.int .i64 u,.int .i64 v])).run Tryz.prog w = .ok (x==u && y==v) w:=by
 rw [Op.equalIn]
 have hs:∀w,(sizeOf 3).run Tryz.prog w = .ok 1 w:=fun w=>by kernel_rfl
 simp only [Sem.run_bind,run_underlying Tryz.underlying132,Result.andThen_ok,hs,Std.Legacy.Range.forIn_eq_forIn_range',Std.Legacy.Range.size]
 simp [List.range',go_sem,Tryz.underlying3,part]
 by_cases h1:x=u <;> by_cases h2:y=v <;> simp [h1,h2]
theorem zgX (x y u v:Int) (w:World):(Op.equalIn 10000 132 (.agg #[.int .i64 x,.int .i64 y]) (.agg #[.int .i64 u,.int .i64 v])).run Tryz.prog w = .ok (x==u && y==v) w:=zcT 9998 x y u v w
end Go.Proofs.YtbjgpbojjhldaaaGreatDoor
/- The plain laws of seams. -/
namespace Go.Proofs.YtbjgpbojjhldaaaGreatDoor
set_option maxRecDepth 100000
def pm (l:List Int) (i:Nat):Int:=(0::l).getD i 0
def cm (l:List Int) (a:Int) (i:Nat):Int:=(l++[a]).getD i 0
theorem zjl {l:List Int} (a:Int) {i:Nat} (h:i<l.length):cm l a i=l.getD i 0:=by
 simp [cm,List.getD_eq_getElem?_getD,List.getElem?_append_left h]
theorem ze8 (l:List Int) (a:Int):cm l a l.length=a:=by
 simp [cm,List.getD_eq_getElem?_getD]
theorem zgO (l:List Int) (i:Nat):pm l (i+1)=l.getD i 0:=by simp [pm]
theorem zp0 (l:List Int):pm l 0=0:=rfl
theorem zeQ {l:List Int} {a:Int} (ha:1<=a) (h:mkOk l a=true):∀i,i<=l.length->0<=pm l i/\pm l i<cm l a i/\cm l a i<=a:=by
 intro i hi
 rcases ZX i l.length with hlt | hge
 ·have h1:=zhB h i hlt
  have h2:=zkr h i hlt
  rw [zjl a hlt]
  exact ⟨h2.1,h1.1,by omega⟩
 ·obtain rfl:i=l.length:=by omega
  rw [ze8]
  rcases Nat.eq_zero_or_pos l.length with h0 | h0
  ·rw [h0,zp0];omega
  ·obtain ⟨n,hn⟩:∃n,l.length=n+1:=⟨l.length-1,by omega⟩
   rw [hn,zgO]
   have h1:=zhB h n (by omega)
   have h2:=zkr h n (by omega)
   omega
theorem zpC {a b:Int} {am bm:List Int} (h:mkE a b am bm=0):(1<=a/\a<=1000/\1<=b/\b<=1000)/\am.length<=50/\bm.length<=50/\mkOk am a=true/\mkOk bm b=true/\am.length=bm.length:=by
 unfold mkE at h
 split at h
 ·rename_i h0
  split at h
  ·omega
  ·split at h
   ·rename_i h1 h2
    split at h
    ·rename_i h3
     rw [Zp] at h2
     exact ⟨zd0 h0,by omega,by omega,h2.1,h2.2,h3⟩
    ·omega
   ·omega
 ·omega
theorem zgI (a b:Int) (am bm:List Int) (i:Nat):mkdS a b am bm i=secL (pm am i) (cm am a i-pm am i) (pm bm i) (cm bm b i-pm bm i):=rfl
theorem zc4 (x a y b:Int):(secL x a y b).length=(max a b).toNat:=by simp [secL]
theorem zpE {a b:Int} {am bm:List Int} (h:mkE a b am bm=0) {i:Nat} (hi:i<am.length):mkdS a b am bm i=secL (pm am i) (am.getD i 0-pm am i) (pm bm i) (bm.getD i 0-pm bm i):=by
 obtain ⟨h0,_,_,h1,h2,h3⟩:=zpC h
 rw [zgI,zjl a hi,zjl b (by omega)]
theorem zm1 {a b:Int} {am bm:List Int} (h:mkE a b am bm=0):mkdS a b am bm am.length=secL (pm am am.length) (a-pm am am.length) (pm bm am.length) (b-pm bm am.length):=by
 obtain ⟨h0,_,_,h1,h2,h3⟩:=zpC h
 rw [zgI,ze8,h3,ze8]
theorem zm0 {a b:Int} {am bm:List Int} (h:mkE a b am bm=0):∀i,i<=am.length+1->(mkdN a b am bm i).length<=1000*i:=by
 obtain ⟨h0,_,_,h1,h2,h3⟩:=zpC h
 intro i
 induction i with
 | zero=>intro _;simp [mkdN]
 | succ i ih =>
  intro hi
  have s1:=zeQ h0.1 h1 i (by omega)
  have s2:=zeQ h0.2.2.1 h2 i (by omega)
  have:=ih (by omega)
  rw [zdA,Zc,zgI,zc4]
  omega
end Go.Proofs.YtbjgpbojjhldaaaGreatDoor
/- The contracts of the functions of seam. -/
namespace Go.Proofs.YtbjgpbojjhldaaaGreatDoor
set_option maxRecDepth 100000
open Go.RowKit
theorem zfC {P:Program} {w:World} (ts:Array TypeId) (t:TypeId) (x y:Int):(Builtin.max_ ts t #[.int .i64 x,.int .i64 y]).run P w = .ok (.int .i64 (max x y)) w:=by
 rw [run_max_int2]
 congr 2
 split <;> omega
theorem zek:(Tryz.prog.info? 3).map (fun i=>(i.zero,i.size,i.bytes))=some (some (.int .i64 0),1,8):=by kernel_rfl
theorem zg1 (n c:Nat) (A:Option Addr) (l:List Int) (w:World) (hl:Ints w A n l) (hn:n<=2) :
  Calls Tryz.prog 196 #[.slice A n c] w fun e w'=>e = .returned (.int .i64 (edE l))/\w=w':=by
 have HX:=Za hl
 clear hl
 go_enter Tryz.func196,Tryz.ntmps196
 go_wp2_with fail
 go_loop [7] (fun i=>∃k:Nat,k<=n/\i = .int .i64 k/\Hid (∀j,j<k->inR (l.getD j 0) 1 1000=true)) (fun i=>n-(intOf i).toNat)
 case atStart=>exact ⟨0,by omega,rfl,fun j hj=>absurd hj (by omega)⟩
 case round =>
  obtain ⟨k,hk,rfl,aa⟩:=hrel
  by_cases hlt:k<n
  ·obtain ⟨b,off,rfl,hb,hc⟩:=HX.out.2 (by omega)
   have h1:=hc k hlt
   clear hc
   cases hr:inR (l.getD k 0) 1 1000
   ·have HB:=Za (zpa HX.out.1 hlt hr)
    have hn:=zq4 hr
    clear hr
    generalize l.getD k 0=x at *
    rcases hn with hn | hn
    ·go_wp2
     go_ret
     exact ⟨by rw [HB.out];rfl,rfl⟩
    ·go_wp2
     go_ret
     exact ⟨by rw [HB.out];rfl,rfl⟩
   ·have HA:=Za (show ∀j,j<k+1->inR (l.getD j 0) 1 1000=true from fun j hj=>by
      by_cases e:j=k
      ·subst e;exact hr
      ·exact aa.out j (by omega))
    have hn:=zaq hr
    clear hr aa
    obtain ⟨n0,n1⟩:=hn
    generalize l.getD k 0=x at *
    go_wp2
    go_round
    case rel=>exact ⟨k+1,by omega,by go_num,HA⟩
    case measure=>simp [intOf];omega
  ·obtain rfl:k=n:=by omega
   have HB:=Za (zqU HX.out.1 aa.out)
   go_wp2
   go_ret
   exact ⟨by rw [HB.out];rfl,rfl⟩
theorem zbw (a b:Int) (w:World) :
  Calls Tryz.prog 196 #[.slice (some ⟨w.heap.size,0,none⟩) 2 2] (w.alloc (.cells #[.int .i64 a,.int .i64 b] 3)) fun e w'=>e = .returned (.int .i64 (edB a b))/\w.alloc (.cells #[.int .i64 a,.int .i64 b] 3)=w':=by
 have h:=zg1 2 2 (some ⟨w.heap.size,0,none⟩) [a,b] (w.alloc (.cells #[.int .i64 a,.int .i64 b] 3)) ⟨rfl,fun _=>⟨_,_,rfl,by simp,fun j hj=>by
  rcases (show j=0∨j=1 by omega) with rfl | rfl <;> simp [go_sem]⟩⟩ (by omega)
 rwa [zpb] at h
theorem zau (n c:Nat) (A:Option Addr) (l:List Int) (a:Int) (w:World) (hl:Ints w A n l) (hm:n<=maxLen) :
  Calls Tryz.prog 197 #[.slice A n c,.int .i64 a] w fun e w'=>e = .returned (.bool (mkOk l a))/\w=w':=by
 have HX:=Za hl
 clear hl
 unfold maxLen at hm
 go_enter Tryz.func197,Tryz.ntmps197
 go_wp2_with fail
 go_loop [5,10] (fun v i=>∃k:Nat,k<=n/\i = .int .i64 k/\v = .int .i64 ((0::l).getD k 0)/\Hid (∀j,j<k->mkAt l a j=true)) (fun _ i=>n-(intOf i).toNat)
 case atStart=>exact ⟨0,by omega,rfl,rfl,fun j hj=>absurd hj (by omega)⟩
 case round =>
  obtain ⟨k,hk,rfl,rfl,aa⟩:=hrel
  by_cases hlt:k<n
  ·obtain ⟨b,off,rfl,hb,hc⟩:=HX.out.2 (by omega)
   have h1:=hc k hlt
   have hs:(0::l).getD (k+1) 0=l.getD k 0:=by simp
   clear hc
   cases hr:mkAt l a k
   ·have HB:=Za (zmY HX.out.1 hlt hr)
    simp only [mkAt,Bool.and_eq_false_iff,decide_eq_false_iff_not] at hr
    clear hs
    generalize l.getD k 0=x at *
    generalize (0::l).getD k 0=y at *
    rcases hr with hr | hr
    ·go_wp2
     go_ret
     exact ⟨by rw [HB.out];rfl,rfl⟩
    ·go_wp2
     all_goals
      go_ret
      exact ⟨by rw [HB.out];rfl,rfl⟩
   ·have HA:=Za (show ∀j,j<k+1->mkAt l a j=true from fun j hj=>by
      by_cases e:j=k
      ·subst e;exact hr
      ·exact aa.out j (by omega))
    simp only [mkAt,Zp,Zy] at hr
    clear aa
    obtain ⟨n0,n1⟩:=hr
    have HS:=Za hs
    clear hs
    generalize l.getD k 0=x at *
    generalize (0::l).getD k 0=y at *
    go_wp2
    go_round
    case rel=>exact ⟨k+1,by omega,by go_num,by rw [HS.out],HA⟩
    case measure=>simp [intOf];omega
  ·obtain rfl:k=n:=by omega
   have HB:=Za (zpD HX.out.1 aa.out)
   go_wp2
   go_ret
   exact ⟨by rw [HB.out];rfl,rfl⟩
theorem zdH (W0:World) (v:Value) (k:Nat) (L:List (Int×Int)) (x a y b:Int) (w:World) (hown:OwnV shPair w W0.heap.size 132 v k L) (hext:Ext W0 w) (hk:k<=100000)
  (x0:0<=x) (x1:x<=1000) (y0:0<=y) (y1:y<=1000) (a0:1<=a) (a1:a<=1000) (b0:1<=b) (b1:b<=1000) :
  Calls Tryz.prog 198 #[v,.int .i64 x,.int .i64 a,.int .i64 y,.int .i64 b] w
   fun e w'=>∃v',e = .returned v'/\OwnV shPair w' W0.heap.size 132 v' (k+(max a b).toNat) (L++secL x a y b)/\Ext W0 w':=by
 obtain ⟨m,hm⟩:=Int.eq_ofNat_of_zero_le (show 0<=max a b by omega)
 have hm1:(m:Int)<=1000:=by omega
 have hm0:(1:Int)<=(m:Int):=by omega
 have HM:=Za hm
 have HE:=Za hext
 have ae:∀(ts:Array TypeId) (t:TypeId) (w:World),(Builtin.max_ ts t #[.int .i64 a,.int .i64 b]).run Tryz.prog w = .ok (.int .i64 m) w:=fun ts t w=>by rw [zfC,hm]
 clear hext hm
 go_enter Tryz.func198,Tryz.ntmps198
 go_wp2_with fail
 clear ae
 go_loopw [0,17] (fun v i wr=>∃j:Nat,j<=m/\i = .int .i64 j/\OwnV shPair wr W0.heap.size 132 v (k+j) (L++(List.range j).map (secV x a y b))/\Hid (Ext W0 wr)) (fun _ i _=>m-(intOf i).toNat)
 case atStart=>exact ⟨0,by omega,rfl,by simpa using hown,HE⟩
 case round =>
  obtain ⟨j,hj,rfl,aa,hext⟩:=hrel
  by_cases hlt:j<m
  ·obtain ⟨p0,p1⟩:=zbd (show 0<=(j:Int) by omega) (show (j:Int)<=1000 by omega) (show 0<=a by omega) a1
   obtain ⟨q0,q1⟩:=zbd (show 0<=(j:Int) by omega) (show (j:Int)<=1000 by omega) (show 0<=b by omega) b1
   have d0:0<=(j:Int)*a / m:=Int.ediv_nonneg p0 (by omega)
   have d1:(j:Int)*a / m<=(j:Int)*a:=Int.ediv_le_self _ p0
   have d2:0<=(j:Int)*b / m:=Int.ediv_nonneg q0 (by omega)
   have d3:(j:Int)*b / m<=(j:Int)*b:=Int.ediv_le_self _ q0
   have HV:=Za (show secV x a y b j=(x+(j:Int)*a / m,y+(j:Int)*b / m) by rw [secV,HM.out])
   have f1:=Zj ((j:Int)*a) (by omega)
   have f2:=Zj ((j:Int)*b) (by omega)
   have f3:((j:Int)*a).tdiv m=(j:Int)*a / m:=Int.tdiv_eq_ediv_of_nonneg p0
   have f4:((j:Int)*b).tdiv m=(j:Int)*b / m:=Int.tdiv_eq_ediv_of_nonneg q0
   have f5:=Zj ((j:Int)*a / m) (by omega)
   have f6:=Zj ((j:Int)*b / m) (by omega)
   have f7:=Zj (x+(j:Int)*a / m) (by omega)
   have f8:=Zj (y+(j:Int)*b / m) (by omega)
   have f9:¬m=0:=by omega
   have ad:k+j<=1000000:=by omega
   go_wp2_with fail
   go_region_held3 (fun _=>True) (trivial) (first | (refine zdL (S:=shPair) 172 132 (.agg #[.int .i64 0,.int .i64 0]) 16 wr.heap.size (x+(j:Int)*a / m,y+(j:Int)*b / m) (by rfl) (by rfl) Tryz.underlying172 zj6 (by rfl) (by omega) (by rfl) (by rfl) ((aa.alloc _).drew) ((hext.out.alloc _).drew) (znf _ _ _ _) ad ?_;intro v' w1 ac ab _))
   clear f1 f2 f3 f4 f5 f6 f7 f8 f9
   go_wp2
   go_roundw
   case rel=>exact ⟨j+1,by omega,by go_num,by rw [zdX,HV.out,<-Zr];exact ac,ab⟩
   case measure=>simp [intOf];omega
  ·obtain rfl:j=m:=by omega
   go_wp2
   go_ret
   refine ⟨_,rfl,?_,hext.out⟩
   rw [HM.out]
   unfold secL
   rw [HM.out]
   exact aa
theorem ziC (a b:Int) (n m c d:Nat) (A B:Option Addr) (am bm:List Int) (w:World) (hx:Ints w A n am) (hy:Ints w B m bm) (hn:n<=maxLen) (hm:m<=maxLen) :
  Calls Tryz.prog 159 #[.int .i64 a,.int .i64 b,.slice A n c,.slice B m d] w (PrsE w (mkdL a b am bm) (mkE a b am bm)):=by
 have HX:=Za hx
 have HY:=Za hy
 have aj:=hx.1
 have ai:=hy.1
 clear hx hy
 have ar:n<=9223372036854775807/\m<=9223372036854775807:=by unfold maxLen at hn hm;omega
 obtain ⟨hn1,hm1⟩:=ar
 have HN:=Za aj
 have HM:=Za ai
 clear aj ai
 cases h:edOk a b
 ·have HE:=Za (show edB a b=2 by simp [edB,h])
  have hk:mkE a b am bm=2:=by simp [mkE,h]
  clear h
  have HK:=Za hk
  have HL:=Za (show mkdL a b am bm=[] by rw [mkdL,hk,if_neg (by omega)])
  clear hk
  go_enter Tryz.func159,Tryz.ntmps159
  go_wp2_with (first | (go_at_call 196;((with_reducible refine (zbw a b _).mono ?_);rintro e w2 ⟨rfl,rfl⟩;rw [HE.out])))
  go_ret2
  exact PrsE.mk none 0 (by rw [HL.out,HK.out];rfl) (by rw [HL.out];exact Vec.none_ _ _ _) zx
 have HE:=Za (show edB a b=0 by simp [edB,h])
 by_cases hc1:50<n∨50<m
 ·have hk:mkE a b am bm=4:=by rw [mkE,if_pos h,if_pos (by rw [HN.out,HM.out];exact hc1)]
  clear h
  rcases hc1 with hc1 | hc1
  ·have HK:=Za hk
   have HL:=Za (show mkdL a b am bm=[] by rw [mkdL,hk,if_neg (by omega)])
   clear hk
   go_enter Tryz.func159,Tryz.ntmps159
   go_wp2_with (first | (go_at_call 196;((with_reducible refine (zbw a b _).mono ?_);rintro e w2 ⟨rfl,rfl⟩;rw [HE.out])))
   go_ret2
   exact PrsE.mk none 0 (by rw [HL.out,HK.out];rfl) (by rw [HL.out];exact Vec.none_ _ _ _) zx
  ·have HK:=Za hk
   have HL:=Za (show mkdL a b am bm=[] by rw [mkdL,hk,if_neg (by omega)])
   clear hk
   go_enter Tryz.func159,Tryz.ntmps159
   go_wp2_with (first | (go_at_call 196;((with_reducible refine (zbw a b _).mono ?_);rintro e w2 ⟨rfl,rfl⟩;rw [HE.out])))
   all_goals go_ret2
   all_goals exact PrsE.mk none 0 (by rw [HL.out,HK.out];rfl) (by rw [HL.out];exact Vec.none_ _ _ _) zx
 have ae:n<=50/\m<=50:=by omega
 obtain ⟨ae,hc3⟩:=ae
 cases h1:mkOk am a
 ·have hk:mkE a b am bm=8:=by rw [mkE,if_pos h,if_neg (by rw [HN.out,HM.out];exact hc1),h1];rfl
  clear h
  have HK:=Za hk
  have HL:=Za (show mkdL a b am bm=[] by rw [mkdL,hk,if_neg (by omega)])
  clear hk
  go_enter Tryz.func159,Tryz.ntmps159
  go_wp2_with (first | (go_at_call 196;((with_reducible refine (zbw a b _).mono ?_);rintro e w2 ⟨rfl,rfl⟩;rw [HE.out])) | (first | (go_at_call 197;((with_reducible refine (zau n c A am a _ (Ints.ext HX.out ((Ze _).alloc _)) hn).mono ?_);rintro e w3 ⟨rfl,rfl⟩)) | (go_at_call 197;((with_reducible refine (zau m d B bm b _ (Ints.ext HY.out ((Ze _).alloc _)) hm).mono ?_);rintro e w3 ⟨rfl,rfl⟩))))
  go_ret2
  exact PrsE.mk none 0 (by rw [HL.out,HK.out];rfl) (by rw [HL.out];exact Vec.none_ _ _ _) zx
 cases h2:mkOk bm b
 ·have hk:mkE a b am bm=8:=by rw [mkE,if_pos h,if_neg (by rw [HN.out,HM.out];exact hc1),h2,Bool.and_false];rfl
  clear h
  have HK:=Za hk
  have HL:=Za (show mkdL a b am bm=[] by rw [mkdL,hk,if_neg (by omega)])
  clear hk
  go_enter Tryz.func159,Tryz.ntmps159
  go_wp2_with (first | (go_at_call 196;((with_reducible refine (zbw a b _).mono ?_);rintro e w2 ⟨rfl,rfl⟩;rw [HE.out])) | (first | (go_at_call 197;((with_reducible refine (zau n c A am a _ (Ints.ext HX.out ((Ze _).alloc _)) hn).mono ?_);rintro e w3 ⟨rfl,rfl⟩)) | (go_at_call 197;((with_reducible refine (zau m d B bm b _ (Ints.ext HY.out ((Ze _).alloc _)) hm).mono ?_);rintro e w3 ⟨rfl,rfl⟩))))
  go_ret2
  exact PrsE.mk none 0 (by rw [HL.out,HK.out];rfl) (by rw [HL.out];exact Vec.none_ _ _ _) zx
 by_cases hc4:n=m
 ·subst hc4
  have hk:mkE a b am bm=0:=by rw [mkE,if_pos h,if_neg (by rw [HN.out,HM.out];exact hc1),h1,h2,Bool.and_true,if_pos rfl,if_pos (by rw [HN.out,HM.out])]
  have HK:=Za hk
  have HL:=Za (show mkdL a b am bm=mkdN a b am bm (n+1) by rw [mkdL,hk,if_pos rfl,HN.out])
  obtain ⟨a0,a1,b0,b1⟩:=zd0 h
  clear h hk
  go_enter Tryz.func159,Tryz.ntmps159
  go_wp2_with (first | (go_at_call 196;((with_reducible refine (zbw a b _).mono ?_);rintro e w2 ⟨rfl,rfl⟩;rw [HE.out])) | (first | (go_at_call 197;((with_reducible refine (zau n c A am a _ (Ints.ext HX.out ((Ze _).alloc _)) hn).mono ?_);rintro e w3 ⟨rfl,rfl⟩)) | (go_at_call 197;((with_reducible refine (zau n d B bm b _ (Ints.ext HY.out ((Ze _).alloc _)) hm).mono ?_);rintro e w3 ⟨rfl,rfl⟩))))
  go_loopw [11,12,13,48] (fun v x y i wr=>∃k:Nat,k<=n/\i = .int .i64 k/\x = .int .i64 (pm am k)/\y = .int .i64 (pm bm k)/\OwnV shPair wr w.heap.size 132 v (mkdN a b am bm k).length (mkdN a b am bm k)/\Hid (Ext w wr)) (fun _ _ _ i _=>n-(intOf i).toNat)
  case atStart=>exact ⟨0,by omega,rfl,rfl,rfl,OwnV.nil _ _ _ _,(Ze _).alloc _⟩
  case round =>
   obtain ⟨k,hk,rfl,rfl,rfl,ad,ac⟩:=hrel
   have hlen:=zm0 HK.out k (by rw [HN.out];omega)
   have s1:=zeQ a0 h1 k (by rw [HN.out];omega)
   have s2:=zeQ b0 h2 k (by rw [HM.out];omega)
   by_cases hlt:k<n
   ·have hS:=zpE HK.out (i:=k) (by rw [HN.out];exact hlt)
    have hN:=zdA a b am bm k
    have hl:=congrArg List.length hN
    rw [Zc,hS,zc4] at hl
    rw [hS] at hN
    have hp1:=zgO am k
    have ak:=zgO bm k
    rw [zjl a (by rw [HN.out];exact hlt)] at s1
    rw [zjl b (by rw [HM.out];exact hlt)] at s2
    obtain ⟨A1,o1,rfl,hb1,hc1⟩:=HX.out.2 (by omega)
    obtain ⟨A2,o2,rfl,ah,ae⟩:=HY.out.2 (by omega)
    have ap:=(Zl (p:=⟨A1,o1+k,none⟩) ac.out hb1).trans (hc1 k hlt)
    have aq:=(Zl (p:=⟨A2,o2+k,none⟩) ac.out ah).trans (ae k hlt)
    have HD:=Za (ae k hlt)
    clear hc1 ae hS
    have hi0:(0:Int)<=(k:Int):=by omega
    have hi1:(k:Int)<(n:Int):=by omega
    generalize am.getD k 0=u at *
    generalize bm.getD k 0=v at *
    generalize pm am k=x at *
    generalize pm bm k=y at *
    have al:=Za hp1
    have ao:=Za ak
    have ag:=Za hN
    have af:=Za hl
    clear hp1 ak hN hl
    go_wp2_with (go_at_call 198;((with_reducible refine (zdH w _ _ _ x (u-x) y (v-y) _ ad ac.out (by omega) (by omega) (by omega) (by omega) (by omega) (by omega) (by omega) (by omega) (by omega)).mono ?_);rintro e w4 ⟨v',rfl,aa,ab⟩))
    have hd3:=(Zl (p:=⟨A2,o2+k,none⟩) ab ah).trans HD.out
    have H1:=Za aa
    clear aa ad ap aq
    go_quiet (fail)
    go_wp2
    go_roundw
    case rel=>exact ⟨k+1,by omega,by go_num,by rw [al.out],by rw [ao.out],by rw [ag.out,Zc,zc4];exact H1.out,zx⟩
    case measure=>simp [intOf];omega
   ·obtain rfl:k=n:=by omega
    have hS:=zm1 HK.out
    have hN:=zdA a b am bm am.length
    rw [hS,HN.out] at hN
    rw [show cm am a k=a by rw [<-HN.out,ze8]] at s1
    rw [show cm bm b k=b by rw [<-HM.out,ze8]] at s2
    have hl:=congrArg List.length hN
    rw [Zc,zc4] at hl
    generalize pm am k=x at *
    generalize pm bm k=y at *
    have ag:=Za hN
    have af:=Za hl
    clear hN hl hS
    go_wp2_with (go_at_call 198;((with_reducible refine (zdH w _ _ _ x (a-x) y (b-y) _ ad ac.out (by omega) (by omega) (by omega) (by omega) (by omega) (by omega) (by omega) (by omega) (by omega)).mono ?_);rintro e w4 ⟨v',rfl,aa,ab⟩))
    obtain ⟨A',c',rfl,hv⟩:=zao aa
    go_ret2
    refine PrsE.mk A' c' ?_ ?_ ab
    ·rw [HL.out,af.out,HK.out];rfl
    ·rw [HL.out,af.out,ag.out];exact hv
 ·have hk:mkE a b am bm=26:=by rw [mkE,if_pos h,if_neg (by rw [HN.out,HM.out];exact hc1),h1,h2,Bool.and_true,if_pos rfl,if_neg (by rw [HN.out,HM.out];exact hc4)]
  clear h
  have hne:((n:Int) != (m:Int))=true:=by rw [bne_iff_ne];omega
  have HK:=Za hk
  have HL:=Za (show mkdL a b am bm=[] by rw [mkdL,hk,if_neg (by omega)])
  clear hk
  go_enter Tryz.func159,Tryz.ntmps159
  go_wp2_with (first | (go_at_call 196;((with_reducible refine (zbw a b _).mono ?_);rintro e w2 ⟨rfl,rfl⟩;rw [HE.out])) | (first | (go_at_call 197;((with_reducible refine (zau n c A am a _ (Ints.ext HX.out ((Ze _).alloc _)) hn).mono ?_);rintro e w3 ⟨rfl,rfl⟩)) | (go_at_call 197;((with_reducible refine (zau m d B bm b _ (Ints.ext HY.out ((Ze _).alloc _)) hm).mono ?_);rintro e w3 ⟨rfl,rfl⟩))))
  go_ret2
  exact PrsE.mk none 0 (by rw [HL.out,HK.out];rfl) (by rw [HL.out];exact Vec.none_ _ _ _) zx
theorem ziX (a b:Int) (w:World):Calls Tryz.prog 118 #[.int .i64 a,.int .i64 b] w (PrsE w (joinL a b) (edB a b)):=by
 have h:=ziC a b 0 0 0 0 none none [] [] w (Ints.none_ _ _) (Ints.none_ _ _) (by unfold maxLen;omega) (by unfold maxLen;omega)
 rw [zmZ,zkq] at h
 go_enter Tryz.func118,Tryz.ntmps118
 go_wp2_with (go_at_call 159;((with_reducible refine (h).mono ?_);rintro e w1 ⟨A,cap,rfl,hv,hq⟩))
 go_ret2
 exact PrsE.mk A cap rfl hv hq
end Go.Proofs.YtbjgpbojjhldaaaGreatDoor
