/- ReadRows. -/
import Derived.Test.YtkneghkbgingdaaGreatDoorK37
set_option maxHeartbeats 16000000
namespace Go.Proofs.YtkneghkbgingdaaGreatDoor
set_option maxRecDepth 100000
open Go.RowKit Go.ChangeShapes Go.WideShapes Go.Joins
theorem Ext.setq {a b:World} (h:Ext a b) {p:Addr} (_:p.block<a.heap.size) (u:Value):Ext (a.setCell p u) (b.setCell p u):=by
 refine ⟨h.os,h.tape,h.output,by simpa using h.size,fun k hk=>?_⟩
 have hk2:k<a.heap.size:=by simpa using hk
 simp only [World.setCell,Array.getElem?_modify]
 rw [h.block k hk2]
theorem OwnQ.set {w:World} {B:Nat} {e:TypeId} {v:Value} {k:Nat} {l:List Ro} (h:OwnQ w B e v k l) {p:Addr} (hp:p.block<B) (u:Value):OwnQ (w.setCell p u) B e v k l:=by
 have hbl:=h.blk
 obtain ⟨xs,h1,h2,h3⟩:=h
 refine ⟨xs,h1.but (E:=some p.block) (But.own (But.refl _ _) rfl u) ?_,h2.keep (by simp) fun b hb hk=>⟨⟨hk.1,hk.2⟩,fun o=>?_⟩,h3⟩
 ·cases hv:v.ownBlock with
  | none=>exact .inl rfl
  | some b =>
   refine .inr fun e9=>?_
   have h9:=hbl b hv
   cases e9
   omega
 ·exact Zj _ p ⟨b,o,none⟩ _ (by intro e9;subst e9;have:=hk.1;simp only at hp;omega)
structure PJ (n:Int) (gR gc:Nat) (w W wr:World) (acc:List Ro) (V:Value):Prop where
 e0:Ext w W
 e1:Ext W wr
 r0:W.cell? ⟨gR,0,none⟩=some (.int .i64 0)
 r1:W.cell? ⟨gR,1,none⟩=some (.slice none 0 0)
 c0:W.cell? ⟨gc,0,none⟩=some (.int .i64 n)
 c1:W.cell? ⟨gc,1,none⟩=some V
 z0:∀o,W.frozen? ⟨gR,o,none⟩=false
 z2:∀o,W.frozen? ⟨gc,o,none⟩=false
 lt:w.heap.size≤gR∧gR<gc∧gc<W.heap.size
 own:OwnQ wr W.heap.size 75 V acc.length acc
theorem PJ.ext {n:Int} {gR gc:Nat} {w W wr wx:World} {acc:List Ro} {V:Value} (h:PJ n gR gc w W wr acc V) (hb:Ext wr wx):PJ n gR gc w W wx acc V :=
 { h with e1:=h.e1.trans hb,own:=h.own.ext hb }
theorem zZ8 {p:Prop} (h:p:=by
 obtain ⟨l0,l1,l2⟩:=h.lt
 exact ⟨(hc _ _ (by omega)).trans h.r0,(hc _ _ (by omega)).trans h.r1,(hc _ _ (by omega)).trans h.c0,(hc _ _ (by omega)).trans h.c1,
  fun o=>(hf _ o (by omega)).trans (h.z0 o),fun o=>(hf _ o (by omega)).trans (h.z2 o),hz _ (by omega),hz _ (by omega)⟩):p:=h
theorem PJ.facts {n:Int} {gR gc:Nat} {w W wr:World} {acc:List Ro} {V:Value} (h:PJ n gR gc w W wr acc V) :
  wr.cell? ⟨gR,0,none⟩=some (.int .i64 0)∧wr.cell? ⟨gR,1,none⟩=some (.slice none 0 0)∧wr.cell? ⟨gc,0,none⟩=some (.int .i64 n)∧wr.cell? ⟨gc,1,none⟩=some V ∧
   (∀o,wr.frozen? ⟨gR,o,none⟩=false)∧(∀o,wr.frozen? ⟨gc,o,none⟩=false)∧gR<wr.heap.size∧gc<wr.heap.size:=by
 obtain ⟨hc,hf,hz⟩:=h.e1.facts
 exact zZ8
theorem PJ.rows_ {n:Int} {gR gc:Nat} {w W wr wx:World} {acc acc2:List Ro} {V V2:Value} (h:PJ n gR gc w W wr acc V) (hb:Ext W wx) (ho:OwnQ wx W.heap.size 75 V2 acc2.length acc2) :
  PJ n gR gc w (W.setCell ⟨gc,1,none⟩ V2) (wx.setCell ⟨gc,1,none⟩ V2) acc2 V2:=by
 obtain ⟨l0,l1,l2⟩:=h.lt
 refine ⟨Zi h.e0 (by simp only;omega) _,hb.setq (by simp only;omega) _,?_,?_,?_,ZK _ _ _ h.c1,fun o=>(Zv _ _ _ _).trans (h.z0 o),fun o=>(Zv _ _ _ _).trans (h.z2 o),⟨l0,l1,by simpa using l2⟩,?_⟩
 ·rw [Zj _ _ _ _ (by intro e;cases e)];exact h.r0
 ·rw [Zj _ _ _ _ (by intro e;cases e;omega)];exact h.r1
 ·rw [Zj _ _ _ _ (by intro e;cases e)];exact h.c0
 ·have h9:=ho.set (p:=⟨gc,1,none⟩) (by simp only;omega) V2
  simpa using h9
theorem PJ.start {n:Int} {w:World} {tc:TypeId} :
  PJ n w.heap.size (w.heap.size+1) w ((w.alloc (.cells #[.int .i64 0,.slice none 0 0] tc)).alloc (.cells #[.int .i64 n,.slice none 0 0] tc)) ((w.alloc (.cells #[.int .i64 0,.slice none 0 0] tc)).alloc (.cells #[.int .i64 n,.slice none 0 0] tc)) [] (.slice none 0 0):=by
 refine ⟨((Zd w).alloc _).alloc _,Zd _,?_,?_,by simp [go_sem],by simp [go_sem],fun o=>?_,fun o=>by simp [go_sem],⟨Zf _,by omega,by simp⟩,OwnQ.nil _ _ _⟩
 ·rw [Zm (p:=⟨w.heap.size,0,none⟩) ((Zd (w.alloc (.cells #[.int .i64 0,.slice none 0 0] tc))).alloc _) (by simp)]
  simp [go_sem]
 ·rw [Zm (p:=⟨w.heap.size,1,none⟩) ((Zd (w.alloc (.cells #[.int .i64 0,.slice none 0 0] tc))).alloc _) (by simp)]
  simp [go_sem]
 ·rw [((Zd (w.alloc (.cells #[.int .i64 0,.slice none 0 0] tc))).alloc _).facts.2.1 _ _ (by simp)]
  simp [go_sem]
theorem PJ.glt {n:Int} {gR gc:Nat} {w W wr:World} {acc:List Ro} {V:Value} (h:PJ n gR gc w W wr acc V):gR<W.heap.size:=by
 have:=h.lt
 omega
theorem PJ.gle {n:Int} {gR gc:Nat} {w W wr:World} {acc:List Ro} {V:Value} (h:PJ n gR gc w W wr acc V):w.heap.size≤W.heap.size:=by
 have:=h.lt
 omega
theorem PJ.box {n:Int} {gR gc:Nat} {w W wr wx:World} {acc:List Ro} {V:Value} (h:PJ n gR gc w W wr acc V) (hb:Ext W wx) :
  wx.cell? ⟨gR,0,none⟩=some (.int .i64 0)∧wx.cell? ⟨gR,1,none⟩=some (.slice none 0 0)∧wx.cell? ⟨gc,0,none⟩=some (.int .i64 n)∧wx.cell? ⟨gc,1,none⟩=some V ∧
   (∀o,wx.frozen? ⟨gR,o,none⟩=false)∧(∀o,wx.frozen? ⟨gc,o,none⟩=false)∧gR<wx.heap.size∧gc<wx.heap.size:=by
 obtain ⟨hc,hf,hz⟩:=hb.facts
 exact zZ8
def RdR (start:Int) (s:List UInt8) (w:World) (e:Ending) (w':World):Prop:=∃(A:Option Addr) (n c:Nat),e = .returned (.tuple #[.agg #[.int .i64 (rwS atoiO start s),.slice A n c],.int .i64 (rwE atoiO start s)])∧Ext w w'∧Rws w' (fun b=>w.heap.size≤b) A n (rwL atoiO start s)
theorem RdR.no {start:Int} {s:List UInt8} {w w':World} (h:rdP atoiO start s=none) (hb:Ext w w'):RdR start s w (.returned (.tuple #[.agg #[.int .i64 0,.slice none 0 0],.int .i64 12])) w':=by
 obtain ⟨h1,h2,h3⟩:=zlb h
 exact ⟨none,0,0,by rw [h1,h3],hb,by rw [h2];exact Rws.none_ _ _ _⟩
theorem RdR.yes {start:Int} {s:List UInt8} {l:List Ro} {A:Option Addr} {n c:Nat} {w w':World} (h:rdP atoiO start s=some l) (hb:Ext w w') (hr:Rws w' (fun b=>w.heap.size≤b) A n l):RdR start s w (.returned (.tuple #[.agg #[.int .i64 start,.slice A n c],.int .i64 0])) w':=by
 obtain ⟨h1,h2,h3⟩:=ze7 h
 exact ⟨A,n,c,by rw [h1,h3],hb,by rw [h2];exact hr⟩
theorem zhA (start:Int) (l:List UInt8) (hl:60000<l.length) (h:(l.length:Int)≤1000000000) (w:World):Calls Tryz.prog 12 #[.int .i64 start,.string ⟨l.toArray⟩] w (RdR start l w):=by
 have h1:=Za (zk8 (at_:=atoiO) (start:=start) hl)
 have h2:(60000:Int)<(l.length:Int):=by omega
 clear hl
 go_enter Tryz.func12,Tryz.ntmps12
 go_wp2_with fail
 exact bodyPost_ret (v := .tuple #[.agg #[.int .i64 0,.slice none 0 0],.int .i64 12]) (by simp [results,Tryz.f12,go_sem]) rfl (RdR.no h1.out zx)
def strOf:Value→Nat
 | .string b=>b.size
 | _=>0
theorem zg9 (l:List UInt8):strOf (.string ⟨l.toArray⟩)=l.length:=zaH l
theorem zhB (start:Int) (l:List UInt8) (hl:¬60000<l.length) (w:World) (hg:Glob w):Calls Tryz.prog 12 #[.int .i64 start,.string ⟨l.toArray⟩] w (RdR start l w):=by
 have HG:=Za hg
 have hlen:¬(60000:Int)<(l.length:Int):=by omega
 have HBAD:=Za (fun h=>zmO (at_:=atoiO) (start:=start) (s:=l) h)
 have HEND:=Za (fun r h=>zmP (at_:=atoiO) (start:=start) (s:=l) (l:=r) hl h)
 have HL:=Za (show l.length≤60000 by omega)
 have HST0:=Za (RdSt.start atoiO l)
 have HPJ0:=Za (PJ.start (n:=start) (w:=w) (tc:=24))
 clear hg hl
 go_enter Tryz.func12,Tryz.ntmps12
 go_wp2_with fail
 go_loopw [7] (fun u wr=>∃(W:World) (rest:List UInt8) (acc:List Ro) (V:Value),u = .string ⟨rest.toArray⟩∧rest.length≤60000∧acc.length≤100∧Hid (PJ start w.heap.size (w.heap.size+1) w W wr acc V)∧Hid (RdSt atoiO l acc rest)) (fun u _=>strOf u)
 case atStart=>exact ⟨_,l,[],_,rfl,HL.out,by simp,HPJ0,HST0⟩
 case round =>
  clear HPJ0 HST0
  obtain ⟨W,rest,acc,V,rfl,hrl,hal,HP,HF⟩:=hrel
  obtain ⟨wa,rfl⟩:∃wa:World,wa=wr:=⟨_,rfl⟩
  obtain ⟨k0,k1,k3,k4,f0,f2,z0,z2⟩:=HP.out.facts
  obtain ⟨A9,c9,rfl,hrw⟩:=zbz HP.out.own (by omega)
  by_cases he:rest=[]
  ·subst he
   have hfin:=HF.out.fin
   have HEQ:=Za (HEND.out acc hfin)
   have HRW:=Za hrw
   have HTX:=Za (fun (w':World) (hb:Ext wa w')=>zaY start A9 acc.length c9 acc w' (hrw.any.ext hb) (HG.out.ext (HP.out.e0.trans (HP.out.e1.trans hb))))
   obtain ⟨T,hT⟩:∃T,rowsV start acc=T:=⟨_,rfl⟩
   obtain ⟨E,hE⟩:∃E,rowsE start acc=E:=⟨_,rfl⟩
   have HT:=Za hT
   have HE:=Za hE
   rw [hT,hE] at HEQ
   clear hrw hfin HEND HBAD HF hT hE
   by_cases hE0:E=0
   ·by_cases hT0:T=l
    ·have HCP:=Za (HEQ.out.trans (if_pos ⟨hE0,hT0⟩))
     subst hE0
     have hTe:(T==l)=true:=by simpa using hT0
     have hTe2:(T != l)=false:=by simpa using hT0
     clear HEQ hT0
     go_wp2_with (first | (go_at_call 10;((with_reducible refine (HTX.out _ zx).mono ?_);rintro e w7 ⟨rfl,hq7⟩;rw [HT.out,HE.out];have HP7:=Za (HP.out.ext (zx:Ext wa w7));have HQ7:=Za (zx:Ext wa w7);clear hq7;obtain ⟨j0,j1,j3,j4,j5,j7,j8,j10⟩:=HP7.out.facts)))
     obtain ⟨y0,y1⟩:=zar (v0 := .int .i64 start) (v1 := .slice A9 acc.length c9) j0 j1
     have HR9:=Za (zej (g:=w.heap.size) (v0 := .int .i64 start) (v1 := .slice A9 acc.length c9) (HRW.out.ext HQ7.out) HP.out.glt HP.out.gle)
     exact bodyPost_ret (v := .tuple #[.agg #[.int .i64 start,.slice A9 acc.length c9],.int .i64 0]) (by simp [results,Tryz.f12,go_sem,y0,y1]) rfl (RdR.yes HCP.out (Zi (Zi (HP7.out.e0.trans HP7.out.e1) (by simp) _) (by simp) _) HR9.out)
    ·have HCP:=Za (HEQ.out.trans (if_neg (fun h=>hT0 h.2)))
     subst hE0
     have hTe:(T==l)=false:=by simpa using hT0
     have hTe2:(T != l)=true:=by simpa using hT0
     clear HEQ hT0
     go_wp2_with (first | (go_at_call 10;((with_reducible refine (HTX.out _ zx).mono ?_);rintro e w7 ⟨rfl,hq7⟩;rw [HT.out,HE.out];have HP7:=Za (HP.out.ext (zx:Ext wa w7));have HQ7:=Za (zx:Ext wa w7);clear hq7;obtain ⟨j0,j1,j3,j4,j5,j7,j8,j10⟩:=HP7.out.facts)))
     obtain ⟨y0,y1⟩:=zar (v0 := .int .i64 0) (v1 := .slice none 0 0) j0 j1
     exact bodyPost_ret (v := .tuple #[.agg #[.int .i64 0,.slice none 0 0],.int .i64 12]) (by simp [results,Tryz.f12,go_sem,y0,y1]) rfl (RdR.no HCP.out (Zi (Zi (HP7.out.e0.trans HP7.out.e1) (by simp) _) (by simp) _))
   ·have HCP:=Za (HEQ.out.trans (if_neg (fun h=>hE0 h.1)))
    have hEe:(E != 0)=true:=by simpa using hE0
    clear HEQ hE0
    go_wp2_with (first | (go_at_call 10;((with_reducible refine (HTX.out _ zx).mono ?_);rintro e w7 ⟨rfl,hq7⟩;rw [HT.out,HE.out];have HP7:=Za (HP.out.ext (zx:Ext wa w7));have HQ7:=Za (zx:Ext wa w7);clear hq7;obtain ⟨j0,j1,j3,j4,j5,j7,j8,j10⟩:=HP7.out.facts)))
    obtain ⟨y0,y1⟩:=zar (v0 := .int .i64 0) (v1 := .slice none 0 0) j0 j1
    exact bodyPost_ret (v := .tuple #[.agg #[.int .i64 0,.slice none 0 0],.int .i64 12]) (by simp [results,Tryz.f12,go_sem,y0,y1]) rfl (RdR.no HCP.out (Zi (Zi (HP7.out.e0.trans HP7.out.e1) (by simp) _) (by simp) _))
  ·have hee:(rest==[])=false:=by simpa using he
   have hee2:(rest != [])=true:=by simpa using he
   have hcl:=(zdY 10 rest).1
   have hcl2:=zlI 10 rest he
   have HCU:=Za (fun (w':World) (h:Ext wa w')=>zdX 10 rest (by omega) w' (HG.out.ext (HP.out.e0.trans (HP.out.e1.trans h))))
   have hno:=fun h=>HBAD.out (HF.out.none he h)
   have hye:=fun x h=>HF.out.next (l:=x) he h
   have HMS:=Za (zg9 rest)
   obtain ⟨one,hone⟩:∃x,(cutA 10 rest).1=x:=⟨_,rfl⟩
   obtain ⟨more,hmore⟩:∃x,(cutA 10 rest).2=x:=⟨_,rfl⟩
   rw [hone,hmore] at HCU
   rw [hone] at hno hcl
   rw [hone,hmore] at hye
   rw [hmore] at hcl2
   have HAD:=Za (fun (w':World) (h:Ext wa w')=>zee W w' A9 acc.length c9 acc one (HP.out.e1.trans h) (HP.out.own.ext h) hal (by omega) (HG.out.ext (HP.out.e0.trans (HP.out.e1.trans h))))
   clear hone hmore he hrw HEND HBAD HF
   cases hq:addP atoiO acc one with
   | none =>
    have HCP:=Za (hno hq)
    have HAD2:=Za (show ∀(w':World),Ext wa w'→Calls Tryz.prog 46 #[.slice A9 acc.length c9,.string ⟨one.toArray⟩] w' fun e w''=>(∃(A:Option Addr) (n c:Nat),e = .returned (.tuple #[.slice A n c,.bool false]))∧Ext W w'' from fun w' h=>by
     refine (HAD.out w' h).mono ?_
     rintro e w9 ⟨V,ok,rfl,hb,⟨_,rfl,A,n,c,rfl⟩ | ⟨x,h2,_⟩⟩
     ·exact ⟨⟨A,n,c,rfl⟩,hb⟩
     ·rw [hq] at h2;cases h2)
    clear hno hye hq HAD
    go_wp2_with (first
     | (go_at_call 45;((with_reducible refine (HCU.out _ zx).mono ?_);rintro e w1 ⟨b1,rfl,hq1⟩;obtain ⟨i0,i1,i3,i4,i5,i7,i8,i10⟩:=(HP.out.ext (zx:Ext wa w1)).facts))
     | (go_at_call 46;((with_reducible refine (HAD2.out _ zx).mono ?_);rintro e w2 ⟨⟨A2,n2,c2,rfl⟩,hq2⟩;have HQ2:=Za hq2;clear hq2;obtain ⟨j0,j1,j3,j4,j5,j7,j8,j10⟩:=HP.out.box HQ2.out)))
    obtain ⟨y0,y1⟩:=zar (v0 := .int .i64 0) (v1 := .slice none 0 0) j0 j1
    exact bodyPost_ret (v := .tuple #[.agg #[.int .i64 0,.slice none 0 0],.int .i64 12]) (by simp [results,Tryz.f12,go_sem,y0,y1]) rfl (RdR.no HCP.out (Zi (Zi (HP.out.e0.trans HQ2.out) (by simp) _) (by simp) _))
   | some x =>
    have HST:=Za (hye x hq)
    have hx100:=zdQ hq
    have HAD2:=Za (show ∀(w':World),Ext wa w'→Calls Tryz.prog 46 #[.slice A9 acc.length c9,.string ⟨one.toArray⟩] w' fun e w''=>∃(A:Option Addr) (c:Nat),e = .returned (.tuple #[.slice A x.length c,.bool true])∧Ext W w''∧OwnQ w'' W.heap.size 75 (.slice A x.length c) x.length x from fun w' h=>by
     refine (HAD.out w' h).mono ?_
     rintro e w9 ⟨V,ok,rfl,hb,⟨h2,_⟩ | ⟨x2,h2,rfl,ho⟩⟩
     ·rw [hq] at h2;cases h2
     ·rw [hq] at h2
      cases h2
      obtain ⟨A,c,rfl, -⟩:=zbz ho (by omega)
      exact ⟨A,c,rfl,hb,ho⟩)
    clear hno hye hq HAD
    go_wp2_with (first
     | (go_at_call 45;((with_reducible refine (HCU.out _ zx).mono ?_);rintro e w1 ⟨b1,rfl,hq1⟩;obtain ⟨i0,i1,i3,i4,i5,i7,i8,i10⟩:=(HP.out.ext (zx:Ext wa w1)).facts))
     | (go_at_call 46;((with_reducible refine (HAD2.out _ zx).mono ?_);rintro e w2 ⟨A2,c2,rfl,hq2,ho2⟩;have HP2:=Za (HP.out.rows_ hq2 ho2);have HQ2:=Za hq2;clear hq2 ho2;obtain ⟨j0,j1,j3,j4,j5,j7,j8,j10⟩:=HP.out.box HQ2.out)))
    go_roundw
    case rel=>exact ⟨_,more,x,_,rfl,by omega,by omega,HP2,HST⟩
    case measure=>rw [HMS.out,zg9];omega
theorem zbk (start:Int) (l:List UInt8) (hl:l.length≤1000000000) (w:World) (hg:Glob w):Calls Tryz.prog 12 #[.int .i64 start,.string ⟨l.toArray⟩] w (RdR start l w):=by
 by_cases h:60000<l.length
 ·exact zhA start l h (by omega) w
 ·exact zhB start l h w hg
end Go.Proofs.YtkneghkbgingdaaGreatDoor
/- The rows of a chart are no longer than their capacities;how that is read off what comes in. -/
namespace Go.Proofs.YtkneghkbgingdaaGreatDoor
set_option maxRecDepth 100000
open Go.RowKit Go.ChangeShapes Go.WideShapes Go.Joins
def Caps (w:World) (A:Option Addr) (n:Nat):Prop:=∃xs:List Raw,Vec shRaw w A n xs∧∀x∈xs,x.n≤x.c
theorem Caps.ext {w w':World} {A:Option Addr} {n:Nat} (h:Caps w A n) (hb:Ext w w'):Caps w' A n:=by
 obtain ⟨xs,h1,h2⟩:=h
 exact ⟨xs,h1.ext hb,h2⟩
theorem Caps.at_ {w:World} {A1:Option Addr} {b off n k n1 c1:Nat} (h:Caps w (some ⟨b,off,none⟩) n) (hk:k<n) (hc:w.cell? ⟨b,off+k*2+1,none⟩=some (.slice A1 n1 c1)):n1≤c1:=by
 obtain ⟨xs,h1,h2⟩:=h
 obtain ⟨b',off',e,_,h3⟩:=h1.2 (by omega)
 cases e
 have hx:xs[k]?=some (xs.getD k raw0):=zgL (by rw [h1.1];exact hk)
 have h4:w.cell? ⟨b,off+k*2+1,none⟩=some (.slice (xs.getD k raw0).A (xs.getD k raw0).n (xs.getD k raw0).c):=h3 k _ hx 1 _ rfl
 rw [hc] at h4
 cases h4
 exact h2 _ (ZT hx)
theorem Caps.none_ (w:World) (A:Option Addr):Caps w A 0:=⟨[],Vec.none_ _ _ _,fun x hx=>by cases hx⟩
def SecCaps (w:World) (A:Option Addr) (n:Nat):Prop:=∃xs:List RSec,Vec shSec w A n xs∧∀x∈xs,Caps w x.A x.n
theorem SecCaps.ext {w w':World} {A:Option Addr} {n:Nat} (h:SecCaps w A n) (hb:Ext w w'):SecCaps w' A n:=by
 obtain ⟨xs,h1,h2⟩:=h
 exact ⟨xs,h1.ext hb,fun x hx=>(h2 x hx).ext hb⟩
theorem SecCaps.at_ {w:World} {A1:Option Addr} {b off n k n1 c1:Nat} (h:SecCaps w (some ⟨b,off,none⟩) n) (hk:k<n) (hc:w.cell? ⟨b,off+k*3+2,none⟩=some (.slice A1 n1 c1)):Caps w A1 n1:=by
 obtain ⟨xs,h1,h2⟩:=h
 obtain ⟨b',off',e,_,h3⟩:=h1.2 (by omega)
 cases e
 have hx:xs[k]?=some (xs.getD k rsec0):=by
  rw [Zc,Zg (by rw [h1.1];exact hk)];rfl
 have h4:w.cell? ⟨b,off+k*3+2,none⟩=some (.slice (xs.getD k rsec0).A (xs.getD k rsec0).n (xs.getD k rsec0).c):=h3 k _ hx 2 _ rfl
 rw [hc] at h4
 cases h4
 exact h2 _ (ZT hx)
section
variable {H:Type} {enc:TypeId×Value→H} {w:World} {base:Nat} {spare:Nat→Bool} {held:Bool}
theorem ze2 {fuel:Nat} {A0:Option Addr} {n0 c0:Nat} {y:DataW H×List MemPlace} (h:DataW.trod enc Tryz.prog w base spare held fuel 22 [.slice A0 n0 c0]=some y):Caps w A0 n0:=by
 obtain ⟨A,n,c,xs,e,hv,hm,hq⟩:=zbj (S:=shRaw) (Q:=fun x=>x.n≤x.c) Tryz.underlying22 (by kernel_rfl) (fun fuel cs y hl hy=>by
  obtain ⟨xs,m,_,_,_,hxl,hel⟩:=DataW.trod_struct Tryz.underlying75 hy
  match cs,hl with
  | [c0,c1],_ =>
   match xs,hxl with
   | [y0,y1],_ =>
    have C1:Tryz.prog.cellsOf 4=1:=by kernel_rfl
    have C2:Tryz.prog.cellsOf 73=1:=by kernel_rfl
    have h0:=hel 0 _ rfl
    have h1:=hel 1 _ rfl
    simp [C1,C2] at h0 h1
    obtain ⟨b,e1,_⟩:=DataW.trod_bool Tryz.underlying4 h0
    obtain ⟨A',n',c',l,rfl,hv,hm,hb⟩:=zdi h1
    simp at e1
    subst e1
    exact ⟨⟨b,A',n',c'⟩,rfl,zcC Tryz.underlying73 h1⟩) h
 cases e
 exact ⟨xs,hv,hq⟩
theorem zdh {fuel:Nat} {A0:Option Addr} {n0 c0:Nat} {y:DataW H×List MemPlace} (h:DataW.trod enc Tryz.prog w base spare held fuel 40 [.slice A0 n0 c0]=some y):SecCaps w A0 n0:=by
 obtain ⟨A,n,c,xs,e,hv,hm,hq⟩:=zbj (S:=shSec) (Q:=fun x=>Caps w x.A x.n) Tryz.underlying40 (by kernel_rfl) (fun fuel cs y hl hy=>by
  obtain ⟨xs,m,_,_,_,hxl,hel⟩:=DataW.trod_struct Tryz.underlying59 hy
  match cs,hl with
  | [c0,c1,c2],_ =>
   match xs,hxl with
   | [y0,y1],_ =>
    have C0:Tryz.prog.cellsOf 9=1:=by kernel_rfl
    have C1:Tryz.prog.cellsOf 24=2:=by kernel_rfl
    have h0:=hel 0 _ rfl
    have h1:=hel 1 _ rfl
    simp [C0,C1] at h0 h1
    obtain ⟨b,e0,_,_⟩:=DataW.trod_string Tryz.underlying9 h0
    simp at e0
    subst e0
    obtain ⟨zs,m2,_,_,_,hzl,hez⟩:=DataW.trod_struct Tryz.underlying24 h1
    match zs,hzl with
    | [z0,z1],_ =>
     have C2:Tryz.prog.cellsOf 3=1:=by kernel_rfl
     have C3:Tryz.prog.cellsOf 22=1:=by kernel_rfl
     have k0:=hez 0 _ rfl
     have k1:=hez 1 _ rfl
     simp [C2,C3] at k0 k1
     obtain ⟨n1,e1,_⟩:=DataW.trod_int Tryz.underlying3 k0
     simp at e1
     subst e1
     obtain ⟨A',n',c',l,rfl,hl⟩:=zbE k1
     exact ⟨⟨b.data.toList,n1,A',n',c'⟩,by simp [shSec],ze2 k1⟩) h
 cases e
 exact ⟨xs,hv,hq⟩
theorem zch {r:Reach} {b0:Nat} {v:Value} {d:DataW H} {p:List MemPlace} (hv:Value.okWide Tryz.prog w r b0 42 v) (h:DataW.Trod enc Tryz.prog w base spare held 42 v d p) :
  ∃(nm:List UInt8) (g1 g2 g3 g4:Int) (As:Option Addr) (ns cs:Nat) (st:List Stf) (Ac:Option Addr) (nc cc:Nat) (se:List Sec),
   v = .agg #[.string ⟨nm.toArray⟩,.int .i64 g1,.int .i64 g2,.int .i64 g3,.int .i64 g4,.slice As ns cs,.slice Ac nc cc]∧Vec shStf w As ns st∧ns≤maxLen∧Secs w Ac nc se∧SecCaps w Ac nc∧nc≤cc:=by
 obtain ⟨nm,g1,g2,g3,g4,As,ns,cs,st,Ac,nc,cc,se,rfl,h1,h2,h3⟩:=ze3 hv h
 refine ⟨nm,g1,g2,g3,g4,As,ns,cs,st,Ac,nc,cc,se,rfl,h1,h2,h3,?_⟩
 obtain ⟨fuel,hf⟩:=h
 obtain ⟨xs,m,_,_,_,hxl,hel⟩:=DataW.trod_struct Tryz.underlying42 hf
 match xs,hxl with
 | [y0,y1,y2,y3],_ =>
  have C3:Tryz.prog.cellsOf 40=1:=by kernel_rfl
  have k3:=hel 3 _ rfl
  simp [C3,Value.cells] at k3
  exact ⟨zdh k3,zcC Tryz.underlying40 k3⟩
end
end Go.Proofs.YtkneghkbgingdaaGreatDoor
/- The program's reader of patterns: what lies where. -/
namespace Go.Proofs.YtkneghkbgingdaaGreatDoor
set_option maxRecDepth 100000
open Go.RowKit Go.ChangeShapes Go.WideShapes Go.Joins
def CellsAt (w:World) (g:Nat) (L:List Value):Prop:=∀j v,L[j]?=some v→w.cell? ⟨g,j,none⟩=some v
theorem CellsAt.ext {w w':World} {g:Nat} {L:List Value} (h:CellsAt w g L) (hb:Ext w w') (hg:g<w.heap.size):CellsAt w' g L:=fun j v hv=>(Zm (p:=⟨g,j,none⟩) hb hg).trans (h j v hv)
theorem CellsAt.set {w:World} {g:Nat} {L:List Value} (h:CellsAt w g L) {j:Nat} (hj:j<L.length) (u:Value):CellsAt (w.setCell ⟨g,j,none⟩ u) g (L.set j u):=by
 intro i v hv
 by_cases hij:i=j
 ·subst hij
  rw [List.getElem?_set_self hj] at hv
  cases hv
  exact ZK _ _ _ (h i _ (Zg hj))
 ·rw [List.getElem?_set_ne (fun e=>hij e.symm)] at hv
  rw [Zj _ _ _ _ (by intro e;cases e;exact hij rfl)]
  exact h i v hv
theorem CellsAt.other {w:World} {g:Nat} {L:List Value} (h:CellsAt w g L) {p:Addr} (hp:p.block≠g) (u:Value):CellsAt (w.setCell p u) g L:=fun j v hv=>by
 rw [Zj _ _ _ _ (by intro e;cases e;exact hp rfl)]
 exact h j v hv
def pcells (p:PSt) (V1 V2:Value):List Value:=[.string ⟨p.nm.toArray⟩,.int .i64 p.g1,.int .i64 p.g2,.int .i64 p.g3,.int .i64 p.g4,V1,V2]
def nilV:Value := .slice none 0 0
def SeK (W:World) (B:Nat) (V2:Value) (x:RSec) (r:Sec):Prop:=x.nm=r.nm∧x.s=r.s∧Rws W (fun b=>B≤b∧some b≠V2.ownBlock) x.A x.n r.rows∧x.n≤x.c
def SecO (W1 W wr:World) (V2:Value) (se:List Sec):Prop:=(se=[]∧V2=nilV)∨∃(pre:List Sec) (x:Sec) (xs:List RSec) (A:Option Addr) (n c:Nat),se=pre++[x] ∧
 OwnV shSec W W1.heap.size 59 V2 se.length (xs++[⟨x.nm,x.s,A,n,c⟩])∧xs.length=pre.length∧(∀k,k<pre.length→SeK W W1.heap.size V2 (xs.getD k rsec0) (pre.getD k sec0))∧OwnQ wr W.heap.size 75 (.slice A n c) n x.rows
theorem SecO.ext {W1 W wr wx:World} {V2:Value} {se:List Sec} (h:SecO W1 W wr V2 se) (hb:Ext wr wx):SecO W1 W wx V2 se:=by
 rcases h with h | ⟨pre,x,xs,A,n,c,h1,h2,h3,h4,h5⟩
 ·exact .inl h
 ·exact .inr ⟨pre,x,xs,A,n,c,h1,h2,h3,h4,h5.ext hb⟩
theorem OwnV.setb {α:Type} {S:Shp α} {w:World} {B:Nat} {e:TypeId} {v:Value} {k:Nat} {L:List α} (h:OwnV S w B e v k L) {p:Addr} (hp:p.block<B) (u:Value):OwnV S (w.setCell p u) B e v k L:=by
 refine h.but (E:=some p.block) (But.own (But.refl _ _) rfl u) ?_
 cases hv:v.ownBlock with
 | none=>exact .inl rfl
 | some b =>
  refine .inr fun e9=>?_
  have h9:=h.blk b hv
  cases e9
  omega
theorem SecO.set {W1 W wr:World} {V2:Value} {se:List Sec} (h:SecO W1 W wr V2 se) {p:Addr} (hp:p.block<W1.heap.size) (hle:W1.heap.size≤W.heap.size) (u:Value):SecO (W1.setCell p u) (W.setCell p u) (wr.setCell p u) V2 se:=by
 rcases h with h | ⟨pre,x,xs,A,n,c,h1,h2,h3,h4,h5⟩
 ·exact .inl h
 ·refine .inr ⟨pre,x,xs,A,n,c,h1,?_,h3,fun k hk=>?_,?_⟩
  ·simpa using h2.setb hp u
  ·obtain ⟨a1,a2,a3,a4⟩:=h4 k hk
   refine ⟨a1,a2,?_,a4⟩
   rw [World.size_setCell]
   exact a3.keep (by simp) fun b _ hb=>⟨hb,fun o=>Zj _ p ⟨b,o,none⟩ _ (by intro e9;subst e9;have:=hb.1;simp only at hp;omega)⟩
  ·simpa using h5.set (by omega) u
structure PM (gR gp:Nat) (w w0 W1 W wr:World) (p:PSt) (V1 V2:Value):Prop where
 e0:Ext w w0
 e1:Ext w0 W1
 e2:Ext W1 W
 e3:Ext W wr
 lt:w.heap.size≤gR∧gR<gp∧gp<w0.heap.size
 rb:CellsAt w0 gR (pcells pst0 nilV nilV)
 pb:CellsAt w0 gp (pcells p V1 V2)
 z0:∀o,w0.frozen? ⟨gR,o,none⟩=false
 z1:∀o,w0.frozen? ⟨gp,o,none⟩=false
 st:OwnV shStf W1 w0.heap.size 61 V1 p.st.length p.st
 se:SecO W1 W wr V2 p.se
section
variable {gR gp:Nat} {w w0 W1 W wr wx:World} {p p':PSt} {V1 V2 V1' V2':Value}
theorem PM.ext (h:PM gR gp w w0 W1 W wr p V1 V2) (hb:Ext wr wx):PM gR gp w w0 W1 W wx p V1 V2:={ h with e3:=h.e3.trans hb,se:=h.se.ext hb }
theorem PM.all (h:PM gR gp w w0 W1 W wr p V1 V2):Ext w wr:=h.e0.trans (h.e1.trans (h.e2.trans h.e3))
theorem PM.at0 (h:PM gR gp w w0 W1 W wr p V1 V2) (hb:Ext w0 wx):CellsAt wx gR (pcells pst0 nilV nilV)∧CellsAt wx gp (pcells p V1 V2)∧(∀o,wx.frozen? ⟨gR,o,none⟩=false)∧(∀o,wx.frozen? ⟨gp,o,none⟩=false)∧gR<wx.heap.size∧gp<wx.heap.size:=by
 obtain ⟨l0,l1,l2⟩:=h.lt
 obtain ⟨hc,hf,hz⟩:=hb.facts
 exact ⟨h.rb.ext hb (by omega),h.pb.ext hb l2,fun o=>(hf _ o (by omega)).trans (h.z0 o),fun o=>(hf _ o l2).trans (h.z1 o),hz _ (by omega),hz _ l2⟩
theorem PM.b0 (h:PM gR gp w w0 W1 W wr p V1 V2):Ext w0 wr:=h.e1.trans (h.e2.trans h.e3)
theorem PM.setp (h:PM gR gp w w0 W1 W wr p V1 V2) {j:Nat} {u:Value} (hj:j<7) (hs:(pcells p V1 V2).set j u=pcells p' V1 V2) (h1:p'.st=p.st) (h2:p'.se=p.se) :
  PM gR gp w (w0.setCell ⟨gp,j,none⟩ u) (W1.setCell ⟨gp,j,none⟩ u) (W.setCell ⟨gp,j,none⟩ u) (wr.setCell ⟨gp,j,none⟩ u) p' V1 V2:=by
 obtain ⟨l0,l1,l2⟩:=h.lt
 have s1:=Zr h.e1
 have s2:=Zr h.e2
 refine ⟨Zi h.e0 (by simp only;omega) _,h.e1.setq (by simpa using l2) _,h.e2.setq (by simp only;omega) _,h.e3.setq (by simp only;omega) _,⟨l0,l1,by simpa using l2⟩,h.rb.other (by simp only;omega) _,?_,fun o=>(Zv _ _ _ _).trans (h.z0 o),fun o=>(Zv _ _ _ _).trans (h.z1 o),?_,?_⟩
 ·rw [←hs];exact h.pb.set (by simpa [pcells] using hj) u
 ·rw [h1,World.size_setCell];exact h.st.setb (by simpa using l2) u
 ·rw [h2];exact h.se.set (by simp only;omega) s2 u
theorem PM.addStf (h:PM gR gp w w0 W1 W wr p V1 V2) (hn:p.se=[]) {x:Stf} (ho:OwnV shStf wx w0.heap.size 61 V1' (p.st.length+1) (p.st++[x])) (hx:Ext w0 wx) :
  PM gR gp w (w0.setCell ⟨gp,5,none⟩ V1') (wx.setCell ⟨gp,5,none⟩ V1') (wx.setCell ⟨gp,5,none⟩ V1') (wx.setCell ⟨gp,5,none⟩ V1') { p with st:=p.st++[x] } V1' V2:=by
 obtain ⟨l0,l1,l2⟩:=h.lt
 refine ⟨Zi h.e0 (by simp only;omega) _,hx.setq (by simpa using l2) _,Zd _,Zd _,⟨l0,l1,by simpa using l2⟩,h.rb.other (by simp only;omega) _,?_,fun o=>(Zv _ _ _ _).trans (h.z0 o),fun o=>(Zv _ _ _ _).trans (h.z1 o),?_,?_⟩
 ·have h9:=h.pb.set (j:=5) (by simp [pcells]) V1'
  simpa [pcells] using h9
 ·rw [World.size_setCell,Zh,ZC]
  exact ho.setb (by simpa using l2) V1'
 ·rcases h.se with ⟨_,h2⟩ | ⟨pre,y,_,_,_,_,h1,_⟩
  ·exact .inl ⟨hn,h2⟩
  ·rw [hn] at h1;simp at h1
theorem PM.addSec (h:PM gR gp w w0 W1 W wr p V1 V2) {nm:List UInt8} {s:Int} {xs:List RSec} (hb:Ext wr wx) {wy:World}
  (ho:OwnV shSec wy W1.heap.size 59 V2' (p.se.length+1) (xs++[⟨nm,s,none,0,0⟩])) (hx:Ext W1 wy) (hg:wx.grownBy wy V2.ownBlock) (hv:V2'.ownBlock=V2.ownBlock∨V2'.ownBlock=some wx.heap.size)
  (hk:xs.length=p.se.length) (hse:∀k,k<p.se.length→SeK wr W1.heap.size V2 (xs.getD k rsec0) (p.se.getD k sec0)) :
  PM gR gp w (w0.setCell ⟨gp,6,none⟩ V2') (W1.setCell ⟨gp,6,none⟩ V2') (wy.setCell ⟨gp,6,none⟩ V2') (wy.setCell ⟨gp,6,none⟩ V2') { p with se:=p.se++[⟨nm,s,[]⟩] } V1 V2':=by
 obtain ⟨l0,l1,l2⟩:=h.lt
 have s1:=Zr h.e1
 refine ⟨Zi h.e0 (by simp only;omega) _,h.e1.setq (by simpa using l2) _,hx.setq (by simp only;omega) _,Zd _,⟨l0,l1,by simpa using l2⟩,h.rb.other (by simp only;omega) _,?_,fun o=>(Zv _ _ _ _).trans (h.z0 o),fun o=>(Zv _ _ _ _).trans (h.z1 o),?_,.inr ⟨p.se,⟨nm,s,[]⟩,xs,none,0,0,rfl,?_,hk,fun k hk2=>?_,OwnQ.nil _ _ _⟩⟩
 ·have h9:=h.pb.set (j:=6) (by simp [pcells]) V2'
  simpa [pcells] using h9
 ·rw [World.size_setCell]
  exact h.st.setb (by simpa using l2) V2'
 ·rw [World.size_setCell,Zh,ZC]
  exact ho.setb (by simp only;omega) V2'
 ·obtain ⟨a1,a2,a3,a4⟩:=hse k hk2
  refine ⟨a1,a2,?_,a4⟩
  rw [World.size_setCell]
  have hs9:=Zr hb
  have key:Rws wy (fun b=>W1.heap.size≤b∧some b≠V2'.ownBlock) (xs.getD k rsec0).A (xs.getD k rsec0).n (p.se.getD k sec0).rows:=by
   refine (a3.ext hb).keep (But.size hg) fun b hlt hb2=>⟨⟨hb2.1,?_⟩,fun o=>But.cell (p:=⟨b,o,none⟩) hg hlt hb2.2⟩
   rcases hv with hv | hv
   ·rw [hv];exact hb2.2
   ·rw [hv];intro e;cases e;omega
  exact key.keep (by simp) fun b _ hb3=>⟨hb3,fun o=>Zj _ ⟨gp,6,none⟩ ⟨b,o,none⟩ _ (by have h8:=hb3.1;intro e9;simp at e9 <;> omega)⟩
end
theorem SecO.flat {W1 W wr:World} {V2:Value} {se:List Sec} (h:SecO W1 W wr V2 se) (h1:Ext W1 W) (h3:Ext W wr) (hr:∀x∈se,x.rows.length≤1000000) :
  ∃xs:List RSec,xs.length=se.length∧OwnV shSec wr W1.heap.size 59 V2 se.length xs∧∀k,k<se.length→SeK wr W1.heap.size V2 (xs.getD k rsec0) (se.getD k sec0):=by
 rcases h with ⟨rfl,rfl⟩ | ⟨pre,x,xs,A,n,c,rfl,h2,h4,h5,h6⟩
 ·exact ⟨[],rfl,OwnV.nil _ _ _ _,fun k hk=>by simp at hk⟩
 ·refine ⟨_,by simp [h4],h2.ext h3,fun k hk=>?_⟩
  rw [Zh,ZC] at hk
  rcases Z1 k pre.length with hlt | hge
  ·have e1:(xs++[(⟨x.nm,x.s,A,n,c⟩:RSec)]).getD k rsec0=xs.getD k rsec0:=by
    rw [Zc,ZR (by omega),←Zc]
   have e2:(pre++[x]).getD k sec0=pre.getD k sec0:=by
    rw [Zc,ZR hlt,←Zc]
   rw [e1,e2]
   obtain ⟨a1,a2,a3,a4⟩:=h5 k hlt
   exact ⟨a1,a2,a3.ext h3,a4⟩
  ·obtain rfl:k=pre.length:=by omega
   have e1:(xs++[(⟨x.nm,x.s,A,n,c⟩:RSec)]).getD pre.length rsec0=⟨x.nm,x.s,A,n,c⟩:=by
    rw [←h4];simp
   have e2:(pre++[x]).getD pre.length sec0=x:=by simp
   rw [e1,e2]
   have hx:=hr x (by simp)
   have hl6:=h6.len
   obtain ⟨A',c',e3,hrw⟩:=zbz h6 (by omega)
   cases e3
   obtain ⟨ys,y1, -, -⟩:=h6
   refine ⟨rfl,rfl,hrw.mono fun b _ hb=>⟨?_,fun e4=>?_⟩,zed y1⟩
   ·have hb2:W.heap.size≤b:=hb
    have:=Zr h1
    omega
   ·have hb2:W.heap.size≤b:=hb
    have:=(h2.blk b e4.symm).2
    omega
section
variable {gR gp:Nat} {w w0 W1 W wr wx:World} {p p':PSt} {V1 V2 V1' V2':Value}
theorem zZ9 {p:Prop} (h:p:=by
 obtain ⟨xs,h1,h2,h3⟩:=h.se.flat h.e2 h.e3 hr
 obtain ⟨A,c,rfl,hv⟩:=zb3 h2
 exact ⟨A,c,rfl,⟨by unfold maxLen;omega,xs,hv,h1,fun k hk=>⟨(h3 k hk).1,(h3 k hk).2.1,(h3 k hk).2.2.1.any,(h3 k hk).2.2.2⟩⟩,zed h2⟩):p:=h
theorem PM.secs (h:PM gR gp w w0 W1 W wr p V1 V2) (hr:∀x∈p.se,x.rows.length≤1000000) (hl:p.se.length≤1000000):∃A c,V2 = .slice A p.se.length c∧Secs wr A p.se.length p.se∧p.se.length≤c:=by
 exact zZ9
theorem PM.stfs (h:PM gR gp w w0 W1 W wr p V1 V2):∃A c,V1 = .slice A p.st.length c∧Vec shStf wr A p.st.length p.st:=by
 obtain ⟨A,c,rfl,hv⟩:=zb3 h.st
 exact ⟨A,c,rfl,hv.ext (h.e2.trans h.e3)⟩
theorem PM.last (h:PM gR gp w w0 W1 W wr p V1 V2) {pre:List Sec} {x:Sec} (hse:p.se=pre++[x]):∃(g2 cc:Nat) (A:Option Addr) (n c:Nat),V2 = .slice (some ⟨g2,0,none⟩) (pre.length+1) cc∧g2<W.heap.size ∧
  W.cell? ⟨g2,pre.length*3+2,none⟩=some (.slice A n c)∧W.frozen? ⟨g2,pre.length*3+2,none⟩=false∧OwnQ wr W.heap.size 75 (.slice A n c) n x.rows ∧
  ∀(w2:World) (A':Option Addr) (n' c':Nat) (l:List Ro),Ext W w2→OwnQ w2 W.heap.size 75 (.slice A' n' c') n' l →
   PM gR gp w w0 W1 (W.setCell ⟨g2,pre.length*3+2,none⟩ (.slice A' n' c')) (w2.setCell ⟨g2,pre.length*3+2,none⟩ (.slice A' n' c')) { p with se:=pre++[{ x with rows:=l }] } V1 V2:=by
 rcases h.se with ⟨h1,_⟩ | ⟨pre',x',xs,A,n,c,h1,h2,h4,h5,h6⟩
 ·rw [hse] at h1;simp at h1
 ·rw [hse] at h1
  obtain ⟨rfl,e2⟩:=List.append_inj' h1 rfl
  cases e2
  have hlen:p.se.length=pre.length+1:=by rw [hse];simp
  rw [hlen] at h2
  obtain ⟨g2,cc,rfl,hg1,hg2⟩:=World.ownsRow.form h2 (by omega)
  have hfl:(xs.flatMap shSec.cells).length=pre.length*3:=by rw [za1,h4];rfl
  have hflat:(xs++[(⟨x.nm,x.s,A,n,c⟩:RSec)]).flatMap shSec.cells=xs.flatMap shSec.cells++[.string ⟨x.nm.toArray⟩,.int .i64 x.s,.slice A n c]:=by
   rw [Z2];rfl
  have hcell:=World.ownsRow.cellAt h2 (pre.length*3+2) (by show pre.length*3+2<(pre.length+1)*3;omega)
  rw [hflat,ZP (by omega),hfl,show pre.length*3+2-pre.length*3=2 by omega] at hcell
  refine ⟨g2,cc,A,n,c,rfl,hg2,hcell,World.ownsRow.frozenAt h2 _,h6,fun w2 A' n' c' l hx ho=>?_⟩
  have s1:=Zr h.e1
  obtain ⟨l0,l1,l2⟩:=h.lt
  refine { h with e2:=Zi h.e2 (by simpa using hg1) _,e3:=hx.setq (by simpa using hg2) _,se := .inr ⟨pre,{ x with rows:=l },xs,A',n',c',rfl,?_,h4,fun k hk=>?_,?_⟩ }
  ·have h9:=(World.ownsRow.stored h2 (pre.length*3+2) (.slice A' n' c')).1
   rw [hflat,List.set_append_right _ _ (by omega),hfl,show pre.length*3+2-pre.length*3=2 by omega] at h9
   unfold OwnV
   rw [Z2,Zh,ZC]
   exact h9
  ·obtain ⟨a1,a2,a3,a4⟩:=h5 k hk
   exact ⟨a1,a2,a3.keep (by simp) fun b _ hb=>⟨hb,fun o=>Zj _ ⟨g2,_,none⟩ ⟨b,o,none⟩ _ (by intro e9;cases e9;exact hb.2 rfl)⟩,a4⟩
  ·rw [World.size_setCell]
   exact ho.set (by simpa using hg2) _
theorem PM.start (w:World):PM w.heap.size (w.heap.size+1) w ((w.alloc (.cells #[.string ⟨#[]⟩,.int .i64 0,.int .i64 0,.int .i64 0,.int .i64 0,.slice none 0 0,.slice none 0 0] 42)).alloc (.cells #[.string ⟨#[]⟩,.int .i64 0,.int .i64 0,.int .i64 0,.int .i64 0,.slice none 0 0,.slice none 0 0] 42)) ((w.alloc (.cells #[.string ⟨#[]⟩,.int .i64 0,.int .i64 0,.int .i64 0,.int .i64 0,.slice none 0 0,.slice none 0 0] 42)).alloc (.cells #[.string ⟨#[]⟩,.int .i64 0,.int .i64 0,.int .i64 0,.int .i64 0,.slice none 0 0,.slice none 0 0] 42))
  ((w.alloc (.cells #[.string ⟨#[]⟩,.int .i64 0,.int .i64 0,.int .i64 0,.int .i64 0,.slice none 0 0,.slice none 0 0] 42)).alloc (.cells #[.string ⟨#[]⟩,.int .i64 0,.int .i64 0,.int .i64 0,.int .i64 0,.slice none 0 0,.slice none 0 0] 42)) ((w.alloc (.cells #[.string ⟨#[]⟩,.int .i64 0,.int .i64 0,.int .i64 0,.int .i64 0,.slice none 0 0,.slice none 0 0] 42)).alloc (.cells #[.string ⟨#[]⟩,.int .i64 0,.int .i64 0,.int .i64 0,.int .i64 0,.slice none 0 0,.slice none 0 0] 42)) pst0 nilV nilV:=by
 have hcell:∀(w:World) (j:Nat) (v:Value),(pcells pst0 nilV nilV)[j]?=some v→(w.alloc (.cells #[.string ⟨#[]⟩,.int .i64 0,.int .i64 0,.int .i64 0,.int .i64 0,.slice none 0 0,.slice none 0 0] 42)).cell? ⟨w.heap.size,j,none⟩=some v:=fun w j v hv=>by
  rw [cell_of_row _ w.heap.size _ _ _ (0,0) (heap_alloc_new w _)]
  simpa [pcells,pst0,nilV] using hv
 refine ⟨((Zd w).alloc _).alloc _,Zd _,Zd _,Zd _,⟨Zf _,by omega,by simp⟩,fun j v hv=>?_,fun j v hv=>?_,fun o=>?_,fun o=>by simp [go_sem],OwnV.nil _ _ _ _,.inl ⟨rfl,rfl⟩⟩
 ·exact (Zm (p:=⟨w.heap.size,j,none⟩) ((Zd (w.alloc (.cells #[.string ⟨#[]⟩,.int .i64 0,.int .i64 0,.int .i64 0,.int .i64 0,.slice none 0 0,.slice none 0 0] 42))).alloc _) (by simp)).trans (hcell w j v hv)
 ·have h9:=hcell (w.alloc (.cells #[.string ⟨#[]⟩,.int .i64 0,.int .i64 0,.int .i64 0,.int .i64 0,.slice none 0 0,.slice none 0 0] 42)) j v hv
  simpa using h9
 ·rw [((Zd (w.alloc (.cells #[.string ⟨#[]⟩,.int .i64 0,.int .i64 0,.int .i64 0,.int .i64 0,.slice none 0 0,.slice none 0 0] 42))).alloc _).facts.2.1 _ _ (by simp)]
  simp [go_sem]
end
end Go.Proofs.YtkneghkbgingdaaGreatDoor
/- Words of a string,plain: how many,and how long. -/
namespace Go.Proofs.YtkneghkbgingdaaGreatDoor
set_option maxRecDepth 100000
theorem zjF (c:UInt8):∀s:List UInt8,(spl c s).length≤s.length+1∧∀w∈spl c s,w.length≤s.length:=by
 intro s
 induction s with
 | nil=>exact ⟨by simp [spl],fun w hw=>by simp [spl] at hw;subst hw;simp⟩
 | cons x l ih =>
  rw [spl]
  split
  ·refine ⟨by simp;omega,fun w hw=>?_⟩
   rcases ZG.1 hw with rfl | hw
   ·simp
   ·have:=ih.2 w hw
    simp only [Zk]
    omega
  ·split
   ·rename_i h t e
    rw [e] at ih
    refine ⟨by have:=ih.1;simp only [Zk] at this ⊢;omega,fun w hw=>?_⟩
    rcases ZG.1 hw with rfl | hw
    ·have:=ih.2 h (by simp)
     simp only [Zk]
     omega
    ·have:=ih.2 w (by simp [hw])
     simp only [Zk]
     omega
   ·exact ⟨by simp,fun w hw=>by simp at hw;subst hw;simp⟩
theorem zcN (c:UInt8) (s:List UInt8):(spl c s).length≤s.length+1:=(zjF c s).1
theorem zau (c:UInt8) (s:List UInt8) (k:Nat):((spl c s).getD k []).length≤s.length:=by
 by_cases h:k<(spl c s).length
 ·rw [Zc,Zg h]
  exact (zjF c s).2 _ (List.getElem_mem h)
 ·rw [Zc,List.getElem?_eq_none (by omega)]
  simp
end Go.Proofs.YtkneghkbgingdaaGreatDoor
/- The reference's reader of terms,plain: what its steps do. -/
namespace Go.Proofs.YtkneghkbgingdaaGreatDoor
set_option maxRecDepth 100000
end Go.Proofs.YtkneghkbgingdaaGreatDoor
/- The reference's end: the place behind a word or a group. -/
namespace Go.Proofs.YtkneghkbgingdaaGreatDoor
set_option maxRecDepth 100000
open Go.RowKit
end Go.Proofs.YtkneghkbgingdaaGreatDoor
/- The reference's reader of terms in memory: what list and term return,the boxes of term. -/
namespace Go.Proofs.YtkneghkbgingdaaGreatDoor
set_option maxRecDepth 100000
open Go.RowKit Go.ChangeShapes Go.WideShapes Go.Joins
section
variable {W0 w w':World} {cs:Array Value} {A:Option Addr} {t:Tms}
end

end Go.Proofs.YtkneghkbgingdaaGreatDoor
