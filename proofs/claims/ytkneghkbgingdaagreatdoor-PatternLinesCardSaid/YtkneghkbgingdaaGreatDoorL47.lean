/- Part of a chart, both. -/
import Derived.Test.YtkneghkbgingdaaGreatDoorL46
import Derived.Test.YtkneghkbgingdaaGreatDoorL37
import Derived.Test.YtkneghkbgingdaaGreatDoorL30
import Derived.Test.YtkneghkbgingdaaGreatDoorL01
import Derived.Test.YtkneghkbgingdaaGreatDoorL02
import Derived.Test.YtkneghkbgingdaaGreatDoorL18
import Derived.Test.YtkneghkbgingdaaGreatDoorL09
import Derived.Test.YtkneghkbgingdaaGreatDoorTie
set_option maxHeartbeats 16000000
namespace Go.Proofs.YtkneghkbgingdaaGreatDoor
set_option maxRecDepth 100000
open Go.RowKit Go.ChangeShapes Go.WideShapes Go.Joins
def partE (s:Int) (l:List Ro) (i j:Int):Int:=if chkC s l≠0 then chkC s l else if i<0∨j<i∨(l.length:Int)<j then 2 else 0
def partL (s:Int) (l:List Ro) (i j:Int):List Ro:=if partE s l i j=0 then (l.drop i.toNat).take (j.toNat-i.toNat) else []
def partS (s:Int) (l:List Ro) (i j:Int):Int:=if partE s l i j=0 then (cntC s l).getD i.toNat 0 else 0
theorem znb {s:Int} {l:List Ro} {i j x:Int} (h:chkC s l=x) (h0:x≠0):partE s l i j=x∧partL s l i j=[]∧partS s l i j=0:=by
 have h1:partE s l i j=x:=by rw [partE,if_pos (by rw [h];exact h0),h]
 exact ⟨h1,by rw [partL,if_neg (by rw [h1];exact h0)],by rw [partS,if_neg (by rw [h1];exact h0)]⟩
theorem ziq {s:Int} {l:List Ro} {i j:Int} (h:chkC s l=0) (hi:i<0∨j<i∨(l.length:Int)<j):partE s l i j=2∧partL s l i j=[]∧partS s l i j=0:=by
 have h1:partE s l i j=2:=by rw [partE,if_neg (by simpa using h),if_pos hi]
 exact ⟨h1,by rw [partL,if_neg (by rw [h1];decide)],by rw [partS,if_neg (by rw [h1];decide)]⟩
theorem zli {s:Int} {l:List Ro} {k q:Nat} (h:chkC s l=0) (h1:k≤q) (h2:q≤l.length):partE s l k q=0∧partL s l k q=(l.drop k).take (q-k)∧partS s l k q=(cntC s l).getD k 0:=by
 have h1:partE s l (k:Int) (q:Int)=0:=by rw [partE,if_neg (by simpa using h),if_neg (by omega)]
 exact ⟨h1,by rw [partL,if_pos h1];rfl,by rw [partS,if_pos h1];rfl⟩
theorem zk8 {s:Int} {l:List Ro} {w:World} {A:Option Addr} {n k:Nat} (h:Ints w A n (cntC s l)) (hk:k≤l.length):n=l.length+1∧∃b off,A=some ⟨b,off,none⟩∧b<w.heap.size∧w.cell? ⟨b,off+k,none⟩=some (.int .i64 ((cntC s l).getD k 0)):=by
 have hn:n=l.length+1:=by rw [←h.1,zjy]
 obtain ⟨b,off,e,hb,hc⟩:=h.2 (by omega)
 exact ⟨hn,b,off,e,hb,hc k (by omega)⟩
theorem ChR.no {w w':World} {e:Ending} {x:Int} (h:e = .returned (.tuple #[.agg #[.int .i64 0,.slice none 0 0],.int .i64 x])) (hb:Ext w w'):ChR 0 [] x w e w':=⟨none,0,0,h,hb,Rws.none_ _ _ _⟩
theorem zdd {l:List Ro} {m k q:Nat} (h:∀j,j<m→(l.getD j ro0).cells.length≤1000) (hq:q≤m):∀j,j<q-k→(((l.drop k).take (q-k)).getD j ro0).cells.length≤1000:=fun j hj=>by
 rw [List.getD_eq_getElem?_getD,List.getElem?_take,if_pos hj,List.getElem?_drop,←List.getD_eq_getElem?_getD]
 exact h (k+j) (by omega)
set_option maxRecDepth 100000 in
theorem zhH (s i j:Int) (A:Option Addr) (m c:Nat) (la:List Ro) (w:World) (ha:Rws w (fun _=>True) A m la) (hcap:m≤c) :
  Calls Tryz.prog 55 #[.agg #[.int .i64 s,.slice A m c],.int .i64 i,.int .i64 j] w (ChR (partS s la i j) (partL s la i j) (partE s la i j) w):=by
 have HLA:=Lib.hid ha.len
 have HA:=Lib.hid ha
 clear ha
 have hB0:=Lib.hid (show Ext w ((w.alloc (.cells #[.int .i64 s,.slice A m c] 24)).alloc (.cells #[.int .i64 0,.slice none 0 0] 24)) from ((Ext.refl _).alloc _).alloc _)
 have hb:Ext ((w.alloc (.cells #[.int .i64 s,.slice A m c] 24)).alloc (.cells #[.int .i64 0,.slice none 0 0] 24)) ((w.alloc (.cells #[.int .i64 s,.slice A m c] 24)).alloc (.cells #[.int .i64 0,.slice none 0 0] 24)):=Ext.refl _
 have hlt2:w.heap.size<w.heap.size+1+1:=by omega
 obtain ⟨hc,hf,hz⟩:=hb.facts
 have HU0:=Lib.hid (fun (w':World) (h:Ext ((w.alloc (.cells #[.int .i64 s,.slice A m c] 24)).alloc (.cells #[.int .i64 0,.slice none 0 0] 24)) w')=>(show w'.cell? ⟨w.heap.size+1,0,none⟩=some (.int .i64 0) by rw [(Ext.facts h).1 _ _ (by simp only [World.size_alloc];omega)];simp [go_sem]))
 have HU1:=Lib.hid (fun (w':World) (h:Ext ((w.alloc (.cells #[.int .i64 s,.slice A m c] 24)).alloc (.cells #[.int .i64 0,.slice none 0 0] 24)) w')=>(show w'.cell? ⟨w.heap.size+1,1,none⟩=some (.slice none 0 0) by rw [(Ext.facts h).1 _ _ (by simp only [World.size_alloc];omega)];simp [go_sem]))
 by_cases h1:chkC s la=0
 case neg =>
  obtain ⟨x,hx⟩:∃x,chkC s la=x:=⟨_,rfl⟩
  rw [hx] at h1
  obtain ⟨e1,e2,e3⟩:=znb (i:=i) (j:=j) hx h1
  rw [e1,e2,e3]
  have HC1:=Lib.hid hx
  have hne:(x != 0)=true:=by simpa using h1
  clear h1 e1 e2 e3 hx
  go_enter Tryz.func55,Tryz.ntmps55
  go_wp2_with (first | (go_at_call 86;((with_reducible refine (zaM s A m c la _ (HA.out.ext (hB0.out.trans (hb.trans (by repeat (first | exact Ext.refl _ | refine Ext.drew ?_ | refine Ext.drewN ?_ _ | refine Ext.alloc ?_ _)))))).mono ?_);intro e w1 hr1;obtain ⟨A1,n1,c1,rfl,hq1⟩:=hr1.out_no;rw [HC1.out];replace hb:=Ext.via hb hq1 (by repeat (first | exact Ext.refl _ | refine Ext.drew ?_ | refine Ext.drewN ?_ _ | refine Ext.alloc ?_ _));clear hq1 hr1;obtain ⟨hc,hf,hz⟩:=hb.facts)))
  obtain ⟨k0,k1⟩:=zar (v0 := .int .i64 0) (v1 := .slice none 0 0) (HU0.out _ hb) (HU1.out _ hb)
  have HX9:=Lib.hid (hB0.out.trans hb)
  clear hc hf hz
  exact bodyPost_ret (v := .tuple #[.agg #[.int .i64 0,.slice none 0 0],.int .i64 x]) (by simp [results,Tryz.f55,go_sem,k0,k1]) rfl (ChR.no rfl (Below.setCell (Below.setCell HX9.out (by simp) _) (by simp) _))
 by_cases hx:i<0
 ·obtain ⟨e1,e2,e3⟩:=ziq (i:=i) (j:=j) h1 (.inl hx)
  rw [e1,e2,e3]
  have HC1:=Lib.hid h1
  clear h1 e1 e2 e3
  go_enter Tryz.func55,Tryz.ntmps55
  go_wp2_with (first | (go_at_call 86;((with_reducible refine (zaM s A m c la _ (HA.out.ext (hB0.out.trans (hb.trans (by repeat (first | exact Ext.refl _ | refine Ext.drew ?_ | refine Ext.drewN ?_ _ | refine Ext.alloc ?_ _)))))).mono ?_);intro e w1 hr1;obtain ⟨A1,n1,c1,rfl,hq1⟩:=hr1.out_no;rw [HC1.out];replace hb:=Ext.via hb hq1 (by repeat (first | exact Ext.refl _ | refine Ext.drew ?_ | refine Ext.drewN ?_ _ | refine Ext.alloc ?_ _));clear hq1 hr1;obtain ⟨hc,hf,hz⟩:=hb.facts)))
  obtain ⟨k0,k1⟩:=zar (v0 := .int .i64 0) (v1 := .slice none 0 0) (HU0.out _ hb) (HU1.out _ hb)
  have HX9:=Lib.hid (hB0.out.trans hb)
  clear hc hf hz
  exact bodyPost_ret (v := .tuple #[.agg #[.int .i64 0,.slice none 0 0],.int .i64 2]) (by simp [results,Tryz.f55,go_sem,k0,k1]) rfl (ChR.no rfl (Below.setCell (Below.setCell HX9.out (by simp) _) (by simp) _))
 by_cases hx:j<i
 ·obtain ⟨e1,e2,e3⟩:=ziq (i:=i) (j:=j) h1 (.inr (.inl hx))
  rw [e1,e2,e3]
  have HC1:=Lib.hid h1
  clear h1 e1 e2 e3
  go_enter Tryz.func55,Tryz.ntmps55
  go_wp2_with (first | (go_at_call 86;((with_reducible refine (zaM s A m c la _ (HA.out.ext (hB0.out.trans (hb.trans (by repeat (first | exact Ext.refl _ | refine Ext.drew ?_ | refine Ext.drewN ?_ _ | refine Ext.alloc ?_ _)))))).mono ?_);intro e w1 hr1;obtain ⟨A1,n1,c1,rfl,hq1⟩:=hr1.out_no;rw [HC1.out];replace hb:=Ext.via hb hq1 (by repeat (first | exact Ext.refl _ | refine Ext.drew ?_ | refine Ext.drewN ?_ _ | refine Ext.alloc ?_ _));clear hq1 hr1;obtain ⟨hc,hf,hz⟩:=hb.facts)))
  obtain ⟨k0,k1⟩:=zar (v0 := .int .i64 0) (v1 := .slice none 0 0) (HU0.out _ hb) (HU1.out _ hb)
  have HX9:=Lib.hid (hB0.out.trans hb)
  clear hc hf hz
  exact bodyPost_ret (v := .tuple #[.agg #[.int .i64 0,.slice none 0 0],.int .i64 2]) (by simp [results,Tryz.f55,go_sem,k0,k1]) rfl (ChR.no rfl (Below.setCell (Below.setCell HX9.out (by simp) _) (by simp) _))
 by_cases hx:(m:Int)<j
 ·obtain ⟨e1,e2,e3⟩:=ziq (i:=i) (j:=j) h1 (.inr (.inr (by rw [HLA.out];exact hx)))
  rw [e1,e2,e3]
  have HC1:=Lib.hid h1
  clear h1 e1 e2 e3
  go_enter Tryz.func55,Tryz.ntmps55
  go_wp2_with (first | (go_at_call 86;((with_reducible refine (zaM s A m c la _ (HA.out.ext (hB0.out.trans (hb.trans (by repeat (first | exact Ext.refl _ | refine Ext.drew ?_ | refine Ext.drewN ?_ _ | refine Ext.alloc ?_ _)))))).mono ?_);intro e w1 hr1;obtain ⟨A1,n1,c1,rfl,hq1⟩:=hr1.out_no;rw [HC1.out];replace hb:=Ext.via hb hq1 (by repeat (first | exact Ext.refl _ | refine Ext.drew ?_ | refine Ext.drewN ?_ _ | refine Ext.alloc ?_ _));clear hq1 hr1;obtain ⟨hc,hf,hz⟩:=hb.facts)))
  obtain ⟨k0,k1⟩:=zar (v0 := .int .i64 0) (v1 := .slice none 0 0) (HU0.out _ hb) (HU1.out _ hb)
  have HX9:=Lib.hid (hB0.out.trans hb)
  clear hc hf hz
  exact bodyPost_ret (v := .tuple #[.agg #[.int .i64 0,.slice none 0 0],.int .i64 2]) (by simp [results,Tryz.f55,go_sem,k0,k1]) rfl (ChR.no rfl (Below.setCell (Below.setCell HX9.out (by simp) _) (by simp) _))
 obtain ⟨k,rfl⟩:∃k:Nat,i=(k:Int):=⟨i.toNat,by omega⟩
 obtain ⟨q,rfl⟩:∃q:Nat,j=(q:Int):=⟨j.toNat,by omega⟩
 have hkq:k≤q:=by omega
 have hqm:q≤m:=by omega
 obtain ⟨e1,e2,e3⟩:=zli (k:=k) (q:=q) h1 hkq (by rw [HLA.out];exact hqm)
 rw [e1,e2,e3]
 have HC1:=Lib.hid h1
 have HKM:=Lib.hid (show k≤la.length by rw [HLA.out];omega)
 have hm9:m≤100:=by rw [←HLA.out];exact (zei h1).1
 have HCA:=Lib.hid (show ∀k,k<m→(la.getD k ro0).cells.length≤1000 by rw [←HLA.out];exact (zei h1).2)
 have q0:(0:Int)≤(k:Int):=by omega
 have q1:(k:Int)≤(q:Int):=by omega
 have q2:(q:Int)≤(m:Int):=by omega
 have q3:(q:Int)≤(c:Int):=by omega
 have q4:(k:Int)<(la.length:Int)+1:=by have:=HKM.out;omega
 clear h1 e1 e2 e3
 have HPT:=Lib.hid (HA.out.part hkq hqm)
 have HAT:=Lib.hid (show k<q→∃b off,A=some ⟨b,off,none⟩ from fun h=>by
  obtain ⟨b,off,_,_,_,e,_⟩:=HA.out.at_ (k:=k) (by omega)
  exact ⟨b,off,e⟩)
 by_cases hck:c=k
 case pos =>
   have hce:∀(x y:Option Addr),(if c=k then x else y)=x:=fun x y=>if_pos hck
   have HQK:=Lib.hid (show q-k=0 by omega)
   clear hck
   go_enter Tryz.func55,Tryz.ntmps55
   go_wp2_with (first | (go_at_call 86;((with_reducible refine (zaM s A m c la _ (HA.out.ext (hB0.out.trans (hb.trans (by repeat (first | exact Ext.refl _ | refine Ext.drew ?_ | refine Ext.drewN ?_ _ | refine Ext.alloc ?_ _)))))).mono ?_);intro e w1 hr1;obtain ⟨A1,n1,c1,rfl,hq1,hi1,hfr1⟩:=hr1.out_ok HC1.out;have HE1:=Lib.hid (show Ext ((w.alloc (.cells #[.int .i64 s,.slice A m c] 24)).alloc (.cells #[.int .i64 0,.slice none 0 0] 24)) w1 from hb.trans (Ext.trans (by repeat (first | exact Ext.refl _ | refine Ext.drew ?_ | refine Ext.drewN ?_ _ | refine Ext.alloc ?_ _)) hq1));replace hb:=Ext.via hb hq1 (by repeat (first | exact Ext.refl _ | refine Ext.drew ?_ | refine Ext.drewN ?_ _ | refine Ext.alloc ?_ _));clear hq1 hr1;obtain ⟨hc,hf,hz⟩:=hb.facts;obtain ⟨rfl,b1,o1,rfl,hb1,hl1⟩:=zk8 hi1 HKM.out;have hfr2:=hfr1 _ _ rfl;clear hi1 hfr1)))
   obtain ⟨hc,hf,hz⟩:=Ext.facts hb
   have m1:w1.cell? ⟨w.heap.size,1,none⟩=some (.slice A m c):=by rw [hc _ _ (by simp only [World.size_alloc];omega)];simp [go_sem]
   have k0:=HU0.out _ hb
   have k1:=HU1.out _ hb
   have k2:w1.frozen? ⟨w.heap.size+1,0,none⟩=false:=by rw [hf _ _ (by simp only [World.size_alloc];omega)];simp [go_sem]
   have k3:w1.frozen? ⟨w.heap.size+1,1,none⟩=false:=by rw [hf _ _ (by simp only [World.size_alloc];omega)];simp [go_sem]
   have hz9:w.heap.size+1+1≤w1.heap.size:=by have h9:=Below.size hb;simp only [World.size_alloc] at h9;omega
   have z0:w.heap.size<w1.heap.size:=by omega
   have z2:w.heap.size+1<w1.heap.size:=by omega
   simp only [World.size_alloc] at hfr2
   have z3:¬(b1=w.heap.size+1):=by omega
   have z4:¬(w.heap.size+1=b1):=by omega
   have HBQ:=Lib.hid hb
   clear hc hf hz hlt2
   go_region_held3 (fun w'=>w'.cell? ⟨w.heap.size,1,none⟩=some (.slice A m c)∧w'.cell? ⟨b1,o1+k,none⟩=some (.int .i64 ((cntC s la).getD k 0))) (go_keep)
    (first
     | (go_at_call 87;(((with_reducible refine (zej _ (q-k) _ ((la.drop k).take (q-k)) _ ((HPT.out _ (fun h=>by have:=HQK.out;exact absurd h (by omega))).ext (hB0.out.trans (hb.trans (by repeat (first | exact Ext.refl _ | refine Ext.drew ?_ | refine Ext.drewN ?_ _ | refine Ext.alloc ?_ _))))) (by omega) (zdd HCA.out hqm)).mono ?_);rintro e w4 ⟨V1,rfl,hq4,ho4⟩;have HE4:=Lib.hid (show Ext w1 w4 from Ext.trans (by repeat (first | exact Ext.refl _ | refine Ext.drew ?_ | refine Ext.drewN ?_ _ | refine Ext.alloc ?_ _)) hq4);replace hb:=HBQ.out.trans HE4.out;clear hq4;obtain ⟨hc,hf,hz⟩:=HE4.out.facts;obtain ⟨A6,c6,rfl,hr6⟩:=zil (show OwnR w4 w1.heap.size 75 V1 _ _ from ho4) (by rw [List.length_take];omega);rw [List.length_take,List.length_drop] at hr6;have HR6:=Lib.hid hr6;clear hr6 ho4))))
   go_wp2
   obtain ⟨y0,y1⟩:=zar (v0 := .int .i64 ((cntC s la)[k]?.getD 0)) (v1 := .slice A6 (min (q-k) (la.length-k)) c6) (HU0.out w4 hb) (HU1.out w4 hb)
   have HX9:=Lib.hid (hB0.out.trans hb)
   have HR9:=Lib.hid (zfw (g:=w.heap.size+1) (v0 := .int .i64 ((cntC s la)[k]?.getD 0)) (v1 := .slice A6 (min (q-k) (la.length-k)) c6) HR6.out z2 (by omega:w.heap.size≤w1.heap.size))
   exact bodyPost_ret (v := .tuple #[.agg #[.int .i64 ((cntC s la)[k]?.getD 0),.slice A6 (min (q-k) (la.length-k)) c6],.int .i64 0]) (by simp [results,Tryz.f55,go_sem,y0,y1]) rfl ⟨A6,_,c6,by rw [List.getD_eq_getElem?_getD],Below.setCell (Below.setCell HX9.out (by simp) _) (by simp) _,HR9.out⟩
 go_enter Tryz.func55,Tryz.ntmps55
 go_wp2_with (first | (go_at_call 86;((with_reducible refine (zaM s A m c la _ (HA.out.ext (hB0.out.trans (hb.trans (by repeat (first | exact Ext.refl _ | refine Ext.drew ?_ | refine Ext.drewN ?_ _ | refine Ext.alloc ?_ _)))))).mono ?_);intro e w1 hr1;obtain ⟨A1,n1,c1,rfl,hq1,hi1,hfr1⟩:=hr1.out_ok HC1.out;have HE1:=Lib.hid (show Ext ((w.alloc (.cells #[.int .i64 s,.slice A m c] 24)).alloc (.cells #[.int .i64 0,.slice none 0 0] 24)) w1 from hb.trans (Ext.trans (by repeat (first | exact Ext.refl _ | refine Ext.drew ?_ | refine Ext.drewN ?_ _ | refine Ext.alloc ?_ _)) hq1));replace hb:=Ext.via hb hq1 (by repeat (first | exact Ext.refl _ | refine Ext.drew ?_ | refine Ext.drewN ?_ _ | refine Ext.alloc ?_ _));clear hq1 hr1;obtain ⟨hc,hf,hz⟩:=hb.facts;obtain ⟨rfl,b1,o1,rfl,hb1,hl1⟩:=zk8 hi1 HKM.out;have hfr2:=hfr1 _ _ rfl;clear hi1 hfr1)))
 obtain ⟨hc,hf,hz⟩:=Ext.facts hb
 have m1:w1.cell? ⟨w.heap.size,1,none⟩=some (.slice A m c):=by rw [hc _ _ (by simp only [World.size_alloc];omega)];simp [go_sem]
 have k0:=HU0.out _ hb
 have k1:=HU1.out _ hb
 have k2:w1.frozen? ⟨w.heap.size+1,0,none⟩=false:=by rw [hf _ _ (by simp only [World.size_alloc];omega)];simp [go_sem]
 have k3:w1.frozen? ⟨w.heap.size+1,1,none⟩=false:=by rw [hf _ _ (by simp only [World.size_alloc];omega)];simp [go_sem]
 have hz9:w.heap.size+1+1≤w1.heap.size:=by have h9:=Below.size hb;simp only [World.size_alloc] at h9;omega
 have z0:w.heap.size<w1.heap.size:=by omega
 have z2:w.heap.size+1<w1.heap.size:=by omega
 simp only [World.size_alloc] at hfr2
 have z3:¬(b1=w.heap.size+1):=by omega
 have z4:¬(w.heap.size+1=b1):=by omega
 have HBQ:=Lib.hid hb
 clear hc hf hz hlt2
 go_region_held3 (fun w'=>w'.cell? ⟨w.heap.size,1,none⟩=some (.slice A m c)∧w'.cell? ⟨b1,o1+k,none⟩=some (.int .i64 ((cntC s la).getD k 0))) (go_keep)
  (first
   | (go_at_call 87;(((with_reducible refine (zej _ (q-k) _ ((la.drop k).take (q-k)) _ ((HPT.out _ (fun h=>by obtain ⟨b,off,e⟩:=HAT.out h;exact ⟨b,off,e,by rw [e];simp [Addr.add]⟩)).ext (hB0.out.trans (hb.trans (by repeat (first | exact Ext.refl _ | refine Ext.drew ?_ | refine Ext.drewN ?_ _ | refine Ext.alloc ?_ _))))) (by omega) (zdd HCA.out hqm)).mono ?_);rintro e w4 ⟨V1,rfl,hq4,ho4⟩;have HE4:=Lib.hid (show Ext w1 w4 from Ext.trans (by repeat (first | exact Ext.refl _ | refine Ext.drew ?_ | refine Ext.drewN ?_ _ | refine Ext.alloc ?_ _)) hq4);replace hb:=HBQ.out.trans HE4.out;clear hq4;obtain ⟨hc,hf,hz⟩:=HE4.out.facts;obtain ⟨A6,c6,rfl,hr6⟩:=zil (show OwnR w4 w1.heap.size 75 V1 _ _ from ho4) (by rw [List.length_take];omega);rw [List.length_take,List.length_drop] at hr6;have HR6:=Lib.hid hr6;clear hr6 ho4))))
 go_wp2
 obtain ⟨y0,y1⟩:=zar (v0 := .int .i64 ((cntC s la)[k]?.getD 0)) (v1 := .slice A6 (min (q-k) (la.length-k)) c6) (HU0.out w4 hb) (HU1.out w4 hb)
 have HX9:=Lib.hid (hB0.out.trans hb)
 have HR9:=Lib.hid (zfw (g:=w.heap.size+1) (v0 := .int .i64 ((cntC s la)[k]?.getD 0)) (v1 := .slice A6 (min (q-k) (la.length-k)) c6) HR6.out z2 (by omega:w.heap.size≤w1.heap.size))
 exact bodyPost_ret (v := .tuple #[.agg #[.int .i64 ((cntC s la)[k]?.getD 0),.slice A6 (min (q-k) (la.length-k)) c6],.int .i64 0]) (by simp [results,Tryz.f55,go_sem,y0,y1]) rfl ⟨A6,_,c6,by rw [List.getD_eq_getElem?_getD],Below.setCell (Below.setCell HX9.out (by simp) _) (by simp) _,HR9.out⟩
end Go.Proofs.YtkneghkbgingdaaGreatDoor
/- Section: the program's and the reference's. -/
namespace Go.Proofs.YtkneghkbgingdaaGreatDoor
set_option maxRecDepth 100000
open Go.RowKit Go.ChangeShapes Go.WideShapes Go.Joins
def secI (se:List Sec) (name:List UInt8):Int:=idxN (seN se) name se.length 0
def secE (nm:List UInt8) (ge:Int) (st:List Stf) (se:List Sec) (name:List UInt8):Int:=if patE nm ge st se≠0 then patE nm ge st se else if secI se name<0 then 6 else 0
def secS (nm:List UInt8) (ge:Int) (st:List Stf) (se:List Sec) (name:List UInt8):Int:=if secE nm ge st se name=0 then (se.getD (secI se name).toNat sec0).s else 0
def secL (nm:List UInt8) (ge:Int) (st:List Stf) (se:List Sec) (name:List UInt8):List Ro:=if secE nm ge st se name=0 then (se.getD (secI se name).toNat sec0).rows else []
section
variable {nm name:List UInt8} {ge x:Int} {st:List Stf} {se:List Sec}
theorem znW (h:patE nm ge st se=x) (h0:x≠0):secE nm ge st se name=x∧secS nm ge st se name=0∧secL nm ge st se name=[]:=by
 have h1:secE nm ge st se name=x:=by rw [secE,if_pos (by rw [h];exact h0),h]
 exact ⟨h1,by rw [secS,if_neg (by rw [h1];exact h0)],by rw [secL,if_neg (by rw [h1];exact h0)]⟩
theorem znX (h:patE nm ge st se=0) (hi:secI se name = -1):secE nm ge st se name=6∧secS nm ge st se name=0∧secL nm ge st se name=[]:=by
 have h1:secE nm ge st se name=6:=by rw [secE,if_neg (fun h9=>h9 h),if_pos (by rw [hi];omega)]
 exact ⟨h1,by rw [secS,if_neg (by rw [h1];decide)],by rw [secL,if_neg (by rw [h1];decide)]⟩
theorem znY {k:Nat} (h:patE nm ge st se=0) (hi:secI se name=(k:Int)):secE nm ge st se name=0∧secS nm ge st se name=(se.getD k sec0).s∧secL nm ge st se name=(se.getD k sec0).rows:=by
 have h1:secE nm ge st se name=0:=by rw [secE,if_neg (fun h9=>h9 h),if_neg (by rw [hi];omega)]
 exact ⟨h1,by rw [secS,if_pos h1,hi,Int.toNat_natCast],by rw [secL,if_pos h1,hi,Int.toNat_natCast]⟩
end
def SecR (s:Int) (l:List Ro) (x:Int) (w:World) (e:Ending) (w':World):Prop:=∃(A:Option Addr) (n c:Nat),e = .returned (.tuple #[.agg #[.int .i64 s,.slice A n c],.int .i64 x])∧Ext w w'∧Rws w' (fun _=>True) A n l
theorem BoxC.free {w:World} {b:Nat} {s:Int} {A:Option Addr} {n c:Nat} (h:BoxC w b s A n c) (j:Nat):w.frozen? ⟨b,j,none⟩=false:=frozen_of_row w b j _ _ h
theorem BoxC.second (w:World) (o:Obj):BoxC ((w.alloc o).alloc (.cells #[.int .i64 0,.slice none 0 0] 24)) (w.heap.size+1) 0 none 0 0:=by
 have h:=BoxC.start (w.alloc o) 0 none 0 0
 have e:(w.alloc o).heap.size=w.heap.size+1:=by simp
 rw [e] at h
 exact h
theorem zfD {w w5:World} {s:Int} {A:Option Addr} {n c:Nat} {l:List Ro} (hb:BoxC w5 (w.heap.size+1) 0 none 0 0) (hx:Ext w w5) (hr:Rws w5 (fun b=>w.heap.size+2≤b) A n l) :
  Ext w ((w5.setCell ⟨w.heap.size+1,0,none⟩ (.int .i64 s)).setCell ⟨w.heap.size+1,1,none⟩ (.slice A n c))∧Rws ((w5.setCell ⟨w.heap.size+1,0,none⟩ (.int .i64 s)).setCell ⟨w.heap.size+1,1,none⟩ (.slice A n c)) (fun _=>True) A n l ∧
   (w5.setCell ⟨w.heap.size+1,0,none⟩ (.int .i64 s)).cell? ⟨w.heap.size+1,0,none⟩=some (.int .i64 s)∧((w5.setCell ⟨w.heap.size+1,0,none⟩ (.int .i64 s)).setCell ⟨w.heap.size+1,1,none⟩ (.slice A n c)).cell? ⟨w.heap.size+1,1,none⟩=some (.slice A n c):=by
 obtain ⟨y0,y1,yz⟩:=hb.facts
 obtain ⟨k0,k1⟩:=zar (v0 := .int .i64 s) (v1 := .slice A n c) y0 y1
 refine ⟨Below.setCell (Below.setCell hx (by simp) _) (by simp) _,hr.keep (by simp [World.setCell]) fun b _ hk=>⟨trivial,fun o=>?_⟩,k0,k1⟩
 have hk2:w.heap.size+2≤b:=hk
 rw [World.cell?_setCell_other _ _ _ _ (by intro e;simp at e <;> omega),World.cell?_setCell_other _ _ _ _ (by intro e;simp at e <;> omega)]
theorem zku (nm:List UInt8) (g1 g2 g3 g4:Int) (As:Option Addr) (ns cs:Nat) (st:List Stf) (Ac:Option Addr) (nc cc:Nat) (se:List Sec) (w:World) (name:List UInt8) (hs:Vec shStf w As ns st) (hc:Secs w Ac nc se)
  (hnl:nm.length≤100000) (hsl:∀i,i<ns→(stN st i).length≤100000) (hcl:∀i,i<nc→(seN se i).length≤100000) (hn1:ns≤10000) (hn2:nc≤10000) :
  Calls Tryz.prog 25 #[.agg #[.string ⟨nm.toArray⟩,.int .i64 g1,.int .i64 g2,.int .i64 g3,.int .i64 g4,.slice As ns cs,.slice Ac nc cc],.string ⟨name.toArray⟩] w (SecR (secS nm (gerr g1 g2 g3 g4) st se name) (secL nm (gerr g1 g2 g3 g4) st se name) (secE nm (gerr g1 g2 g3 g4) st se name) w):=by
 have HLC:=Lib.hid hc.len
 have HSV:=Lib.hid hs
 have HCV:=Lib.hid hc
 have HBX:=Lib.hid ((BoxP.start w nm g1 g2 g3 g4 As ns cs Ac nc cc).ext ((Ext.refl (w.alloc (.cells #[.string ⟨nm.toArray⟩,.int .i64 g1,.int .i64 g2,.int .i64 g3,.int .i64 g4,.slice As ns cs,.slice Ac nc cc] 42))).alloc (.cells #[.int .i64 0,.slice none 0 0] 24)))
 have HRB:=Lib.hid (BoxC.second w (.cells #[.string ⟨nm.toArray⟩,.int .i64 g1,.int .i64 g2,.int .i64 g3,.int .i64 g4,.slice As ns cs,.slice Ac nc cc] 42))
 have HW0:=Lib.hid (show Ext w ((w.alloc (.cells #[.string ⟨nm.toArray⟩,.int .i64 g1,.int .i64 g2,.int .i64 g3,.int .i64 g4,.slice As ns cs,.slice Ac nc cc] 42)).alloc (.cells #[.int .i64 0,.slice none 0 0] 24)) from ((Ext.refl w).alloc _).alloc _)
 have HZW:=Lib.hid (show ((w.alloc (.cells #[.string ⟨nm.toArray⟩,.int .i64 g1,.int .i64 g2,.int .i64 g3,.int .i64 g4,.slice As ns cs,.slice Ac nc cc] 42)).alloc (.cells #[.int .i64 0,.slice none 0 0] 24)).heap.size=w.heap.size+2 by simp)
 have HCK:=Lib.hid (fun (w':World) (hx:Ext ((w.alloc (.cells #[.string ⟨nm.toArray⟩,.int .i64 g1,.int .i64 g2,.int .i64 g3,.int .i64 g4,.slice As ns cs,.slice Ac nc cc] 42)).alloc (.cells #[.int .i64 0,.slice none 0 0] 24)) w')=>zbA nm g1 g2 g3 g4 As ns cs st Ac nc cc se w' (HSV.out.ext (HW0.out.trans hx)) (HCV.out.ext (HW0.out.trans hx)) hnl hsl hcl hn1 hn2)
 obtain ⟨R,hR⟩:∃R,patE nm (gerr g1 g2 g3 g4) st se=R:=⟨_,rfl⟩
 have HR:=Lib.hid hR
 rw [hR] at HCK
 clear hs hc hsl hcl hR
 by_cases h0:R=0
 case neg =>
  have HV:=Lib.hid (znW (name:=name) HR.out h0)
  have p7:(R != 0)=true:=by simpa using h0
  clear h0
  go_enter Tryz.func25,Tryz.ntmps25
  go_wp2_with (first
   | (go_at_call 28;((with_reducible refine (HCK.out _ zx).mono ?_);rintro e w3 ⟨rfl,hq3⟩;obtain ⟨x0,x1,x2,x3,x4,x5,x6,xz⟩:=(HBX.out.ext (zx:Ext _ w3)).facts;obtain ⟨y0,y1,yz⟩:=(HRB.out.ext (zx:Ext _ w3)).facts;have z0:=(HRB.out.ext (zx:Ext _ w3)).free 0;have z1:=(HRB.out.ext (zx:Ext _ w3)).free 1)))
  obtain ⟨n1,n2,k0,k1⟩:=zfD (w:=w) (w5:=w3) (s:=0) (c:=0) (HRB.out.ext zx) (HW0.out.trans zx) (Rws.none_ _ _ none)
  rw [HV.out.1,HV.out.2.1,HV.out.2.2]
  exact bodyPost_ret (v := .tuple #[.agg #[.int .i64 0,.slice none 0 0],.int .i64 R]) (by simp [results,Tryz.f25,go_sem,k0,k1]) rfl ⟨none,0,0,rfl,n1,n2⟩
 subst h0
 have HP:=Lib.hid (zlj HR.out)
 go_enter Tryz.func25,Tryz.ntmps25
 go_wp2_with (first
  | (go_at_call 28;((with_reducible refine (HCK.out _ zx).mono ?_);rintro e w3 ⟨rfl,hq3⟩;obtain ⟨x0,x1,x2,x3,x4,x5,x6,xz⟩:=(HBX.out.ext (zx:Ext _ w3)).facts;obtain ⟨y0,y1,yz⟩:=(HRB.out.ext (zx:Ext _ w3)).facts;have z0:=(HRB.out.ext (zx:Ext _ w3)).free 0;have z1:=(HRB.out.ext (zx:Ext _ w3)).free 1)))
 go_loopw [18] (fun v wr=>∃k:Nat,v = .int .i64 (k:Int)∧k≤nc∧Hid (secI se name=idxN (seN se) name (nc-k) k)∧Hid (Ext ((w.alloc (.cells #[.string ⟨nm.toArray⟩,.int .i64 g1,.int .i64 g2,.int .i64 g3,.int .i64 g4,.slice As ns cs,.slice Ac nc cc] 42)).alloc (.cells #[.int .i64 0,.slice none 0 0] 24)) wr)) (fun v _=>nc-(intOf v).toNat)
 case atStart=>exact ⟨0,rfl,Nat.zero_le _,Lib.hid (by rw [secI,HLC.out];rfl),Lib.hid zx⟩
 case round =>
  clear x0 x1 x2 x3 x4 x5 x6 xz y0 y1 yz z0 z1
  obtain ⟨k,rfl,hk,HI,HE⟩:=hrel
  obtain ⟨wa,rfl⟩:∃wa:World,wa=wr:=⟨_,rfl⟩
  obtain ⟨x0,x1,x2,x3,x4,x5,x6,xz⟩:=(HBX.out.ext (HE.out:Ext _ wa)).facts;obtain ⟨y0,y1,yz⟩:=(HRB.out.ext (HE.out:Ext _ wa)).facts;have z0:=(HRB.out.ext (HE.out:Ext _ wa)).free 0;have z1:=(HRB.out.ext (HE.out:Ext _ wa)).free 1
  have q0:(0:Int)≤(k:Int):=by omega
  by_cases hlt:k<nc
  ·have q1:(k:Int)<(nc:Int):=by omega
   obtain ⟨b',off,A',n',c',rfl,hb',c0,c1,c2,hr,hcap⟩:=(HCV.out.ext (HW0.out.trans HE.out)).at_ hlt
   have HRW:=Lib.hid hr
   have hI:=HI.out
   obtain ⟨m,hm⟩:∃m,nc-k=m+1:=⟨nc-k-1,by omega⟩
   rw [hm,idxN] at hI
   have hm2:nc-(k+1)=m:=by omega
   obtain ⟨Y,hY⟩:∃Y,seN se k=Y:=⟨_,rfl⟩
   rw [hY] at c0
   by_cases hxy:Y=name
   ·rw [if_pos (hY.trans hxy)] at hI
    have hV:=znY (name:=name) HR.out hI
    have hch:=HP.out.2.2 k (by rw [HLC.out];exact hlt)
    obtain ⟨S,hS⟩:∃S,(se.getD k sec0).s=S:=⟨_,rfl⟩
    obtain ⟨L,hL⟩:∃L,(se.getD k sec0).rows=L:=⟨_,rfl⟩
    rw [hS,hL] at hV hch
    rw [hS] at c1
    rw [hL] at HRW
    have HV:=Lib.hid hV
    have hll:=HRW.out.len
    have hn':=HRW.out.1
    unfold maxLen at hn'
    obtain ⟨e1,e2,e3⟩:=zli (k:=0) (q:=n') hch (Nat.zero_le _) (by omega)
    have e4:(cntC S L).getD 0 0=S:=rfl
    have e5:(L.drop 0).take (n'-0)=L:=by rw [List.drop_zero,Nat.sub_zero,List.take_of_length_le (by omega)]
    have HPA:=Lib.hid (fun (w':World) (h:Ext wa w')=>(show Calls Tryz.prog 55 #[.agg #[.int .i64 S,.slice A' n' c'],.int .i64 0,.int .i64 (n':Int)] w' (ChR S L 0 w') from by
     have h9:=zhH S 0 (n':Int) A' n' c' L w' (HRW.out.ext h) hcap
     have h8:=h9
     rw [show (0:Int)=((0:Nat):Int) from rfl] at h8
     rw [e1,e2,e3,e4,e5] at h8
     exact h8))
    have hb1:(Y==name)=true:=by simpa using hxy
    have p8:(0:Int)≤(n':Int):=by omega
    clear hI hm hm2 hY hxy hS hL hV hch hll e1 e2 e3 e4 e5 hr
    go_wp2_with (first
     | (go_at_call 55;((with_reducible refine (HPA.out _ zx).mono ?_);rintro e w5 ⟨A5,n5,c5,rfl,hq5,hr5⟩;obtain ⟨x0,x1,x2,x3,x4,x5,x6,xz⟩:=(HBX.out.ext (HE.out.trans (zx):Ext _ w5)).facts;obtain ⟨y0,y1,yz⟩:=(HRB.out.ext (HE.out.trans (zx):Ext _ w5)).facts;have z0:=(HRB.out.ext (HE.out.trans (zx):Ext _ w5)).free 0;have z1:=(HRB.out.ext (HE.out.trans (zx):Ext _ w5)).free 1;have HE5:=Lib.hid (HE.out.trans (zx:Ext _ w5));have HR5:=Lib.hid (hr5.mono (K':=fun b=>w.heap.size+2≤b) (fun b _ hk=>(by have h8:=Below.size HE.out;rw [HZW.out] at h8;have h9:wa.heap.size≤b:=Nat.le_trans (by simp) hk;omega)));clear hr5)))
    obtain ⟨n1,n2,k0,k1⟩:=zfD (w:=w) (w5:=w5) (s:=S) (c:=c5) (HRB.out.ext HE5.out) (HW0.out.trans HE5.out) HR5.out
    rw [HV.out.1,HV.out.2.1,HV.out.2.2]
    exact bodyPost_ret (v := .tuple #[.agg #[.int .i64 S,.slice A5 n5 c5],.int .i64 0]) (by simp [results,Tryz.f25,go_sem,k0,k1]) rfl ⟨A5,n5,c5,rfl,n1,n2⟩
   ·rw [if_neg (fun h9=>hxy (hY.symm.trans h9)),←hm2] at hI
    have HN:=Lib.hid hI
    have hb1:(Y==name)=false:=by simpa using hxy
    clear hI hm hm2 hY hxy hr
    go_wp2_with fail
    go_roundw
    case rel=>exact ⟨k+1,by go_num,by omega,HN,Lib.hid (HE.out.trans zx)⟩
    case measure=>simp [intOf] <;> omega
  ·obtain rfl:nc=k:=by omega
   have HV:=Lib.hid (znX (name:=name) HR.out (by rw [HI.out,Nat.sub_self];rfl))
   go_wp2_with fail
   obtain ⟨n1,n2,k0,k1⟩:=zfD (w:=w) (w5:=wa) (s:=0) (c:=0) (HRB.out.ext HE.out) (HW0.out.trans HE.out) (Rws.none_ _ _ none)
   rw [HV.out.1,HV.out.2.1,HV.out.2.2]
   exact bodyPost_ret (v := .tuple #[.agg #[.int .i64 0,.slice none 0 0],.int .i64 6]) (by simp [results,Tryz.f25,go_sem,k0,k1]) rfl ⟨none,0,0,rfl,n1,n2⟩
end Go.Proofs.YtkneghkbgingdaaGreatDoor
/- The chapter's examples of patterns. -/
namespace Go.Proofs.YtkneghkbgingdaaGreatDoor
set_option maxRecDepth 100000
open Go.RowKit Go.ChangeShapes Go.WideShapes Go.Joins
theorem zn3:ptxE scP.nm (gerr 22 1000 30 1000) 22 1000 30 1000 scSt scSe=0∧ptxV scP.nm (gerr 22 1000 30 1000) 22 1000 30 1000 scSt scSe=scB:=zdM znU zn4 (by decide)
theorem znV:secE scP.nm (gerr 22 1000 30 1000) scSt scSe [98,111,100,121]=0∧secS scP.nm (gerr 22 1000 30 1000) scSt scSe [98,111,100,121]=4∧secL scP.nm (gerr 22 1000 30 1000) scSt scSe [98,111,100,121]=scR:=by decide +kernel
theorem zmw (i:Nat) (_:i<1):(stN scSt i).length≤100:=by
 rcases i with _ | i
 ·decide
 ·omega
theorem zmv (i:Nat) (_:i<1):(seN scSe i).length≤100:=by
 rcases i with _ | i
 ·decide
 ·omega
theorem zlP (A:Option Addr) (w:World) (hr:Rws w (fun _=>True) A 6 gvR) (hg:Glob w):Calls Tryz.prog 10 #[.agg #[.int .i64 4,.slice A 6 6]] w fun e w'=>e = .returned (.tuple #[.string ⟨#[102,114,111,110,116,32,107,32,121,111,32,107,42,50,32,112,10,98,97,99,107,32,112,42,53,10,102,114,111,110,116,32,107,42,53,10,97,103,97,105,110,32,50,32,49,10,98,97,99,107,32,112,42,53,10]⟩,.int .i64 0])∧Ext w w':=by
 have h:=zbZ 4 A 6 6 gvR w hr hg
 unfold PRowsR at h
 rw [zff.1,zff.2] at h
 exact h
theorem zlO (w:World) (hg:Glob w):Calls Tryz.prog 12 #[.int .i64 4,.string ⟨#[102,114,111,110,116,32,107,32,121,111,32,107,42,50,32,112,10,98,97,99,107,32,112,42,53,10,102,114,111,110,116,32,107,42,53,10,97,103,97,105,110,32,50,32,49,10,98,97,99,107,32,112,42,53,10]⟩] w fun e w'=>∃(A:Option Addr) (c:Nat),e = .returned (.tuple #[.agg #[.int .i64 4,.slice A 6 c],.int .i64 0])∧Ext w w'∧Rws w' (fun _=>True) A 6 gvR:=by
 refine (zix 4 someB (by decide) w hg).mono ?_
 rintro e w' ⟨A,n,c,rfl,h1,h2⟩
 obtain ⟨e1,e2,e3⟩:=zlm zmz
 rw [e2] at h2
 obtain rfl:n=6:=h2.len.symm
 rw [e1,e3]
 exact ⟨A,c,rfl,h1,h2.any⟩
theorem zjN (w:World) (hg:Glob w):Calls Tryz.prog 18 #[.string ⟨#[112,97,116,116,101,114,110,32,115,99,97,114,102,10,103,97,117,103,101,32,50,50,32,49,48,48,48,32,51,48,32,49,48,48,48,10,115,116,117,102,102,32,119,111,111,108,32,50,48,48,10,115,101,99,116,105,111,110,32,98,111,100,121,32,52,10,102,114,111,110,116,32,107,42,52,10,98,97,99,107,32,112,42,52,10,97,103,97,105,110,32,50,32,57,10]⟩] w fun e w'=>∃(As Ac:Option Addr) (cs cc:Nat),e = .returned (.tuple #[.agg #[.string ⟨#[115,99,97,114,102]⟩,.int .i64 22,.int .i64 1000,.int .i64 30,.int .i64 1000,.slice As 1 cs,.slice Ac 1 cc],.int .i64 0])∧Ext w w'∧Vec shStf w' As 1 scSt∧Secs w' Ac 1 scSe:=by
 refine (zgZ scB (by decide) w hg).mono ?_
 rintro e w' ⟨h1,⟨h2, -⟩ | ⟨p,As,Ac,cs,cc,h2,rfl,h3,h4, -⟩⟩
 ·rw [zn2] at h2;cases h2
 ·rw [zn2] at h2
  cases h2
  exact ⟨As,Ac,cs,cc,rfl,h1,h3,h4⟩
section
variable (As Ac:Option Addr) (cs cc:Nat) (w:World) (hs:Vec shStf w As 1 scSt) (hc:Secs w Ac 1 scSe)
include hs hc
theorem zlQ (hg:Glob w):Calls Tryz.prog 16 #[.agg #[.string ⟨#[115,99,97,114,102]⟩,.int .i64 22,.int .i64 1000,.int .i64 30,.int .i64 1000,.slice As 1 cs,.slice Ac 1 cc]] w fun e w'=>e = .returned (.tuple #[.string ⟨#[112,97,116,116,101,114,110,32,115,99,97,114,102,10,103,97,117,103,101,32,50,50,32,49,48,48,48,32,51,48,32,49,48,48,48,10,115,116,117,102,102,32,119,111,111,108,32,50,48,48,10,115,101,99,116,105,111,110,32,98,111,100,121,32,52,10,102,114,111,110,116,32,107,42,52,10,98,97,99,107,32,112,42,52,10,97,103,97,105,110,32,50,32,57,10]⟩,.int .i64 0])∧Ext w w':=by
 have h:=zex scP.nm 22 1000 30 1000 As 1 cs scSt Ac 1 cc scSe w hs hc (by decide) (fun i hi=>Nat.le_trans (zmw i hi) (by decide)) (fun i hi=>Nat.le_trans (zmv i hi) (by decide)) (by decide) (by decide) hg (zfd _ _ _ _)
 unfold PtxR at h
 rw [zn3.1,zn3.2] at h
 exact h
theorem zmZ:Calls Tryz.prog 25 #[.agg #[.string ⟨#[115,99,97,114,102]⟩,.int .i64 22,.int .i64 1000,.int .i64 30,.int .i64 1000,.slice As 1 cs,.slice Ac 1 cc],.string ⟨#[98,111,100,121]⟩] w fun e w'=>∃(A:Option Addr) (c:Nat),e = .returned (.tuple #[.agg #[.int .i64 4,.slice A 20 c],.int .i64 0])∧Ext w w':=by
 refine (zku scP.nm 22 1000 30 1000 As 1 cs scSt Ac 1 cc scSe w [98,111,100,121] hs hc (by decide) (fun i hi=>Nat.le_trans (zmw i hi) (by decide)) (fun i hi=>Nat.le_trans (zmv i hi) (by decide)) (by decide) (by decide)).mono ?_
 rintro e w' ⟨A,n,c,rfl,h1,h2⟩
 rw [znV.2.2] at h2
 obtain rfl:n=20:=h2.len.symm
 rw [znV.1,znV.2.1]
 exact ⟨A,c,rfl,h1⟩
theorem zjM:Calls Tryz.prog 24 #[.agg #[.string ⟨#[115,99,97,114,102]⟩,.int .i64 22,.int .i64 1000,.int .i64 30,.int .i64 1000,.slice As 1 cs,.slice Ac 1 cc]] w fun e w'=>e = .returned (.tuple #[.int .i64 200,.int .i64 0])∧Ext w w':=by
 have h:=zgY scP.nm 22 1000 30 1000 As 1 cs scSt Ac 1 cc scSe w hs hc (by decide) (fun i hi=>Nat.le_trans (zmw i hi) (by decide)) (fun i hi=>Nat.le_trans (zmv i hi) (by decide)) (by decide) (by decide)
 unfold GrmR at h
 rw [show patE scP.nm (gerr 22 1000 30 1000) scSt scSe=0 from znU,if_pos rfl,show gramS scSt scSt.length=200 from rfl] at h
 exact h
end
theorem zgO (w:World) (hg:Glob w):Calls Tryz.prog 29 #[] w fun e w'=>e = .returned (.bool true)∧Ext w w':=by
 have HG:=Lib.hid hg
 have HB:=Lib.hid (Ext.refl w)
 clear hg
 go_enter Tryz.func29,Tryz.ntmps29
 go_wp2_with (first
  | (go_at_call 27;(first
   | ((have h0:=T5.out);(with_reducible refine (zfe _).mono ?_);rintro e w7 ⟨A7,rfl,hq,hr⟩;have hx:Ext w6 w7:=(Ext.trans zx hq);have HX7:=Lib.hid hx;replace HB:=Lib.hid (HB.out.trans hx);have HR7:=Lib.hid hr.any;clear hq hr hx)
   | ((fail_if_success (have h0:=T5.out));(with_reducible refine (zfe _).mono ?_);rintro e w1 ⟨A1,rfl,hq,hr⟩;replace HB:=Lib.hid (HB.out.trans hq);have HR1:=Lib.hid hr.any;clear hq hr)))
  | (go_at_call 10;((with_reducible refine (zlP _ _ (HR1.out.ext zx) (HG.out.ext (HB.out.trans zx))).mono ?_);rintro e w2 ⟨rfl,hq⟩;replace HB:=Lib.hid (HB.out.trans (Ext.trans zx hq));clear hq))
  | (go_at_call 12;((with_reducible refine (zlO _ (HG.out.ext (HB.out.trans zx))).mono ?_);rintro e w3 ⟨A3,c3,rfl,hq,hr⟩;replace HB:=Lib.hid (HB.out.trans (Ext.trans zx hq));have HR3:=Lib.hid hr;have HC3:=Lib.hid (BoxC.start w3 4 A3 6 c3);clear hq hr))
  | (go_at_call 18;((with_reducible refine (zjN _ (HG.out.ext (HB.out.trans zx))).mono ?_);rintro e w4 ⟨As,Ac,cs,cc,rfl,hq,hs,hc⟩;replace HB:=Lib.hid (HB.out.trans (Ext.trans zx hq));have HX4:=Lib.hid (Ext.trans zx hq:Ext w3 w4);have HQ4:=Lib.hid hq;have HS4:=Lib.hid hs;have HC4:=Lib.hid hc;have HP4:=Lib.hid (BoxP.start w4 [115,99,97,114,102] 22 1000 30 1000 As 1 cs Ac 1 cc);clear hq hs hc))
  | (go_at_call 16;((with_reducible refine (zlQ As Ac cs cc _ (HS4.out.ext zx) (HC4.out.ext zx) (HG.out.ext (HB.out.trans zx))).mono ?_);rintro e w5 ⟨rfl,hq⟩;have HX5:=Lib.hid (Ext.trans zx hq:Ext w4 w5);have HQ5:=Lib.hid hq;obtain ⟨x0,x1,x2,x3,x4,x5,x6,xz⟩:=(HP4.out.ext hq).facts;replace HB:=Lib.hid (HB.out.trans HX5.out);clear hq))
  | (go_at_call 25;((with_reducible refine (zmZ As Ac cs cc _ (HS4.out.ext (HX5.out.trans zx)) (HC4.out.ext (HX5.out.trans zx))).mono ?_);rintro e w6 ⟨A6,c6,rfl,hq⟩;have T5:=Lib.hid trivial;obtain ⟨y0,y1,y2,y3,y4,y5,y6,yz⟩:=((HP4.out.ext HQ5.out).ext (Ext.trans zx hq)).facts;have HX6:=Lib.hid (Ext.trans zx hq:Ext w5 w6);replace HB:=Lib.hid (HB.out.trans HX6.out);have HC6:=Lib.hid (BoxC.start w6 4 A6 20 c6);clear hq))
  | (go_at_call 24;((with_reducible refine (zjM As Ac cs cc _ (HS4.out.ext (HX5.out.trans (HX6.out.trans zx))) (HC4.out.ext (HX5.out.trans (HX6.out.trans zx)))).mono ?_);rintro e w9 ⟨rfl,hq⟩;have HX9:=Lib.hid (Ext.trans zx hq:Ext w6 w9);obtain ⟨k0,k1,kz⟩:=(HC3.out.ext (HQ4.out.trans (HX5.out.trans (HX6.out.trans HX9.out)))).facts;obtain ⟨m0,m1,mz⟩:=(HC6.out.ext hq).facts;have HC63:=Lib.hid (HC3.out.ext (HQ4.out.trans (HX5.out.trans (HX6.out.trans HX9.out))));have HC69:=Lib.hid (HC6.out.ext hq);have HR9:=Lib.hid (HR3.out.ext (HX4.out.trans (HX5.out.trans (HX6.out.trans HX9.out))));replace HB:=Lib.hid (HB.out.trans HX9.out);clear hq)))
 have HX:=Lib.hid (Ext.refl w9)
 go_region_held3 (fun wx=>wx.cell? ⟨w3.heap.size,0,none⟩=some (.int .i64 4)∧wx.cell? ⟨w3.heap.size,1,none⟩=some (.slice A3 6 c3)∧wx.cell? ⟨w6.heap.size,0,none⟩=some (.int .i64 4)∧wx.cell? ⟨w6.heap.size,1,none⟩=some (.slice A6 20 c6)) (go_keep) (first
  | (go_at_call 27;((with_reducible refine (zfe _).mono ?_);rintro e w7 ⟨A7,rfl,hq,hr⟩;replace HX:=Lib.hid (HX.out.trans (Ext.trans zx hq:Ext w9 w7));have HR7:=Lib.hid hr.any;clear hq hr;obtain ⟨k0,k1,kz⟩:=(HC63.out.ext HX.out).facts;obtain ⟨m0,m1,mz⟩:=(HC69.out.ext HX.out).facts))
  | (go_at_call 14;((with_reducible refine (zg5 4 4 A3 A7 6 6 c3 6 gvR gvR _ (HR9.out.ext (HX.out.trans zx)) (HR7.out.ext zx)).mono ?_);rintro e w8 ⟨rfl,hq⟩;rw [zeM];replace HX:=Lib.hid (HX.out.trans (Ext.trans zx hq:Ext w7 w8));clear hq;obtain ⟨k0,k1,kz⟩:=(HC63.out.ext HX.out).facts;obtain ⟨m0,m1,mz⟩:=(HC69.out.ext HX.out).facts)))
 all_goals
  go_wp2_with fail
  go_ret
  exact ⟨by first | rfl | simp,HB.out.trans (by have h9:=HX.out;repeat (first|exact zr _|assumption|refine za ?_ _|refine zd ?_|refine zn ?_ _|refine zt ?_ (by assumption)))⟩
end Go.Proofs.YtkneghkbgingdaaGreatDoor
/- Written instructions,plain: the lines of what Rows writes,one by one. -/
namespace Go.Proofs.YtkneghkbgingdaaGreatDoor
set_option maxRecDepth 100000
def LnSt (l:List Ro) (i:Nat) (R:List UInt8):Prop:=∃f,l.length-i<f∧rowsT l f i=some R
theorem LnSt.start {l:List Ro} {T:List UInt8} (h:rowsT l (l.length+1) 0=some T):LnSt l 0 T:=⟨l.length+1,by omega,h⟩
theorem LnSt.fin {l:List Ro} {i:Nat} {R:List UInt8} (h:LnSt l i R) (hi:l.length≤i):R=[]:=by
 obtain ⟨f,h1,h2⟩:=h
 rw [zeI hi] at h2
 exact (Option.some.inj h2).symm
theorem LnSt.agn {l:List Ro} {i k m:Nat} {R:List UInt8} (h:LnSt l i R) (hi:i<l.length) (ha:agnT l i=(k,m)) (hm:0<m) (hk:1≤k):∃R',R=(agnB++decD k++32::decD m)++10::R'∧LnSt l (i+k*m) R':=by
 obtain ⟨f,h1,h2⟩:=h
 obtain ⟨f,rfl⟩:∃g,f=g+1:=⟨f-1,by omega⟩
 have hp:0<k*m:=Nat.mul_pos (by omega) hm
 rw [zeH hi ha hm] at h2
 obtain ⟨R',h3,rfl⟩:=Option.map_eq_some_iff.1 h2
 exact ⟨R',rfl,f,by omega,h3⟩
theorem LnSt.line {l:List Ro} {i:Nat} {R:List UInt8} (h:LnSt l i R) (hi:i<l.length) (ha:(agnT l i).2=0):∃s R',lineT (l.getD i ro0)=some s∧R=s++10::R'∧LnSt l (i+1) R':=by
 obtain ⟨f,h1,h2⟩:=h
 obtain ⟨f,rfl⟩:∃g,f=g+1:=⟨f-1,by omega⟩
 rw [zce hi ha] at h2
 obtain ⟨s,h3,h4⟩:=Option.bind_eq_some_iff.1 h2
 obtain ⟨R',h5,rfl⟩:=Option.map_eq_some_iff.1 h4
 exact ⟨s,R',h3,rfl,f,by omega,h5⟩
theorem zgE (l:List Ro) (k:Nat):∀f i,eqRun l k f i<f→l.getD (i+eqRun l k f i) ro0≠l.getD (i+eqRun l k f i-k) ro0:=by
 intro f
 induction f with
 | zero=>intro i h;omega
 | succ f ih =>
  intro i h
  rw [eqRun] at h ⊢
  split
  ·rename_i h0
   rw [if_pos h0] at h
   have h1:=ih (i+1) (by omega)
   rw [show i+(eqRun l k f (i+1)+1)=i+1+eqRun l k f (i+1) by omega]
   exact h1
  ·rename_i h0
   exact h0
theorem ziM {l:List Ro} {i m:Nat} (hi:i<l.length) (ha:agnT l i=(1,m)) (hm:0<m):repT l (i+m) 1=0:=by
 have hr:repT l i 1=m:=by
  unfold agnT at ha
  split at ha
  ·simp at ha
  ·simpa using ha
 unfold repT at hr
 split at hr
 ·omega
 ·rename_i h0
  rw [Nat.div_one] at hr
  have hle:=zdx l 1 (l.length-i) i
  rw [repT,if_neg (by omega),Nat.div_one]
  cases hq:l.length-(i+m) with
  | zero=>rfl
  | succ f =>
   have h1:=zgE l 1 (l.length-i) i (by omega)
   rw [hr] at h1
   rw [eqRun,if_neg h1]
theorem zhs {l:List Ro} {i k m:Nat} (h:repT l i 1=0) (ha:agnT l i=(k,m)) (hm:0<m):k=2:=by
 unfold agnT at ha
 split at ha
 ·simp at ha;omega
 ·simp at ha;omega
theorem zly {k m:Nat} (hk:k≤200) (hm:m≤200):spl 32 (agnB++decD k++32::decD m)=[agn5,decD k,decD m]:=by
 have hd:∀ {n:Nat},n≤200→32 ∉ decD n:=fun h h9=>(zbD h 32 h9).2 rfl
 rw [show agnB++decD k++32::decD m=agn5++32::(decD k++32::decD m) by rw [List.append_assoc];rfl,zav (by decide),zav (hd hk),za3 (hd hm)]
theorem zmJ {k m:Nat} (hk:k≤200) (hm:m≤200):∀x∈agnB++decD k++32::decD m,x≠10:=by
 intro x hx9
 rcases List.mem_append.1 hx9 with hx9 | hx9
 ·rcases List.mem_append.1 hx9 with hx9 | hx9
  ·exact (show ∀x∈agnB,x≠10 by decide) x hx9
  ·exact (zbD hk x hx9).1
 ·rcases List.mem_cons.1 hx9 with rfl | hx9
  ·decide
  ·exact (zbD hm x hx9).1
theorem zlW {r:Ro} {s:List UInt8} (h:lineT r=some s) (h1:tchkE (termsT r.cells)=0):(∀x∈s,x≠10)∧(spl 32 s).getD 0 []=sideB r.back:=by
 unfold lineT at h
 split at h
 ·cases h
 ·cases h
  refine ⟨?_,zdQ _ _⟩
  intro x hx9
  rcases List.mem_append.1 hx9 with hx9 | hx9
  ·exact (zcg _ x hx9).1
  ·split at hx9
   ·cases hx9
   ·rcases List.mem_cons.1 hx9 with rfl | hx9
    ·decide
    ·exact zjg _ _ (Nat.le_refl _) (zaO h1).2.2 x hx9
end Go.Proofs.YtkneghkbgingdaaGreatDoor
/- Written instructions,plain: one line after the other. -/
namespace Go.Proofs.YtkneghkbgingdaaGreatDoor
set_option maxRecDepth 100000
theorem zmt {s:Int} {l:List Ro} (h:chkC s l=0):rowsE s l=0∨rowsE s l=4:=by
 rw [rowsE,if_neg (fun h9=>h9 h)]
 split
 ·exact .inr rfl
 ·split
  ·exact .inr rfl
  ·exact .inl rfl
structure LnRd (l:List Ro) (i:Nat) (T:List UInt8) (p:Nat) (L R':List UInt8) (d:Nat):Prop where
 le:p+L.length<T.length
 at_:∀j,j<L.length→T.getD (p+j) 0≠10
 nl:T.getD (p+L.length) 0=10
 ex:(T.drop p).take L.length=L
 dr:T.drop (p+L.length+1)=R'
 nx:LnSt l (i+d) R'
 pos:1≤d
 bd:i+d≤l.length
theorem zif {l:List Ro} {i p d:Nat} {T L R':List UInt8} (hT:T.drop p=L++10::R') (hn:∀x∈L,x≠10) (hx:LnSt l (i+d) R') (hp:1≤d) (hb:i+d≤l.length):LnRd l i T p L R' d:=by
 have hlen:=congrArg List.length hT
 simp only [List.length_drop,List.length_append,List.length_cons] at hlen
 have hg:∀j,T.getD (p+j) 0=(L++10::R').getD j 0:=fun j=>by
  rw [←hT,List.getD_eq_getElem?_getD,List.getD_eq_getElem?_getD,List.getElem?_drop]
 refine ⟨by omega,fun j hj=>?_,?_,?_,?_,hx,hp,hb⟩
 ·rw [hg,List.getD_eq_getElem?_getD,List.getElem?_append_left hj,List.getElem?_eq_getElem hj]
  exact hn _ (List.getElem_mem _)
 ·rw [hg,List.getD_eq_getElem?_getD,List.getElem?_append_right (Nat.le_refl _)]
  simp
 ·rw [hT];simp
 ·rw [show p+L.length+1=p+(L.length+1) by omega,←List.drop_drop,hT,←List.drop_drop]
  simp
theorem zkg {sc:Int} {l:List Ro} {i p:Nat} {T:List UInt8} (hv:chkC sc l=0) (h:LnSt l i (T.drop p)) (hp:p<T.length) :
  (∃(k m:Nat) (R':List UInt8),LnRd l i T p (agnB++decD k++32::decD m) R' (k*m)∧(k=1∨k=2)∧1≤m∧m≤100∧(repT l i 1=0→k=2)∧(k=1→repT l (i+k*m) 1=0)) ∨
  (∃(b:Bool) (L R':List UInt8),LnRd l i T p L R' 1∧(spl 32 L).getD 0 []=sideB b∧L.length≤3006):=by
 obtain ⟨hl,hcell⟩:=zbP hv
 have hne:T.drop p≠[]:=by
  intro e
  have:=congrArg List.length e
  simp at this
  omega
 have hi:i<l.length:=by
  rcases Nat.lt_or_ge i l.length with h1 | h1
  ·exact h1
  ·exact absurd (h.fin h1) hne
 obtain ⟨k,m,ha⟩:∃k m,agnT l i=(k,m):=⟨_,_,rfl⟩
 by_cases hm:0<m
 ·obtain ⟨h1,h2,h3,h4⟩:=zfP (by omega) ha hm
  obtain ⟨R',hR,hx⟩:=h.agn hi ha hm h2
  have hkm:0<k*m:=Nat.mul_pos (by omega) hm
  refine .inl ⟨k,m,R',zif hR (zmJ (by omega) (by omega)) hx (by omega) h1,by omega,hm,by omega,fun h9=>zhs h9 ha hm,fun h9=>?_⟩
  subst h9
  rw [Nat.one_mul]
  exact ziM hi ha hm
 ·have hm0:(agnT l i).2=0:=by rw [ha];simp only;omega
  obtain ⟨s,R',hs,hR,hx⟩:=h.line hi hm0
  obtain ⟨hb,hc⟩:=hcell i hi
  have htk:tchkE (termsT (l.getD i ro0).cells)=0:=(zbB hb hc).1
  obtain ⟨h5,h6⟩:=zlW hs htk
  exact .inr ⟨(l.getD i ro0).back,s,R',zif hR h5 hx (Nat.le_refl _) (by omega),h6,zgd hs htk⟩
theorem zm6 {l:List Ro} {i:Nat} (h:LnSt l i []) (hi:i≤l.length):i=l.length:=by
 rcases Nat.lt_or_ge i l.length with h1 | h1
 ·exfalso
  obtain ⟨k,m,ha⟩:∃k m,agnT l i=(k,m):=⟨_,_,rfl⟩
  by_cases hm:0<m
  ·obtain ⟨_,hk,_,_⟩:=zfP hi ha hm
   obtain ⟨R',hR,_⟩:=h.agn h1 ha hm hk
   have h9:=congrArg List.length hR
   simp at h9
  ·obtain ⟨s,R',_,hR,_⟩:=h.line h1 (by rw [ha];simp only;omega)
   have h9:=congrArg List.length hR
   simp at h9
 ·omega
end Go.Proofs.YtkneghkbgingdaaGreatDoor
/- The reference's Number of zi1 digits. -/
namespace Go.Proofs.YtkneghkbgingdaaGreatDoor
set_option maxRecDepth 100000
open Go.RowKit
theorem zkZ {l:List UInt8} (h:l.all isDg=true):valD l<10 ^ l.length:=by
 have h1:=zjj l 0 h
 unfold valD
 omega
def num7I (l:List UInt8):Int:=(((num7 l).getD 0:Nat):Int)
def Num7R (l:List UInt8) (w:World) (e:Ending) (w':World):Prop:=e = .returned (.tuple #[.int .i64 (num7I l),.bool (num7 l).isSome])∧Ext w w'
theorem zcP {l:List UInt8} {w w':World} (h:num7 l=none) (hb:Ext w w'):Num7R l w (.returned (.tuple #[.int .i64 0,.bool false])) w':=by
 refine ⟨?_,hb⟩
 unfold num7I
 rw [h]
 rfl
theorem zkh {l:List UInt8} {n:Nat} {w w':World} (h:num7 l=some n) (hb:Ext w w'):Num7R l w (.returned (.tuple #[.int .i64 (n:Int),.bool true])) w':=by
 refine ⟨?_,hb⟩
 unfold num7I
 rw [h]
 rfl
theorem zeG (l:List UInt8) (hl:l.length≤100000) (w:World):Calls Tryz.prog 32 #[.string ⟨l.toArray⟩] w (Num7R l w):=by
 by_cases h0:l.length=0
 ·have HN:=Lib.hid (show num7 l=none by rw [num7,if_pos (.inl h0)])
  have q:((l.length:Int)==0)=true:=by simp [h0]
  have q2:(l.length:Int)=0:=by omega
  go_enter Tryz.func32,Tryz.ntmps32
  go_wp2_with fail
  go_ret2
  exact zcP HN.out (Ext.refl _)
 have p0:((l.length:Int)==0)=false:=by rw [beq_eq_false_iff_ne];omega
 have p00:¬((l.length:Int)=0):=by omega
 by_cases h4:7<l.length
 ·have HN:=Lib.hid (show num7 l=none by rw [num7,if_pos (.inr (.inl h4))])
  have q:(7:Int)<(l.length:Int):=by omega
  go_enter Tryz.func32,Tryz.ntmps32
  go_wp2_with fail
  go_ret2
  exact zcP HN.out (Ext.refl _)
 have p4:¬((7:Int)<(l.length:Int)):=by omega
 have h50:=zan l 0
 by_cases hz:1<l.length∧l.getD 0 0=48
 ·obtain ⟨h1,hz⟩:=hz
  have p1:(1:Int)<(l.length:Int):=by omega
  have hh:l.head?=some 48:=by
   rw [List.head?_eq_getElem?,List.getElem?_eq_getElem (by omega)]
   rw [List.getD_eq_getElem?_getD,List.getElem?_eq_getElem (by omega)] at hz
   exact congrArg some hz
  have HN:=Lib.hid (show num7 l=none by rw [num7,if_pos (.inr (.inr ⟨h1,hh⟩))])
  clear hh
  rw [hz] at h50
  clear hz
  go_enter Tryz.func32,Tryz.ntmps32
  go_wp2_with fail
  go_ret2
  exact zcP HN.out (Ext.refl _)
 have hsp:¬(l.length=0∨7<l.length∨(1<l.length∧l.head?=some 48)):=by
  rintro (h | h | ⟨h3,h⟩)
  ·omega
  ·omega
  ·refine hz ⟨h3,?_⟩
   rw [List.head?_eq_getElem?,List.getElem?_eq_getElem (by omega)] at h
   rw [List.getD_eq_getElem?_getD,List.getElem?_eq_getElem (by omega)]
   exact Option.some.inj h
 have HYES:=Lib.hid (fun (h:l.all isDg=true)=>(show num7 l=some (valD l) by rw [num7,if_neg hsp,if_pos h]))
 have HNO:=Lib.hid (fun (h:l.all isDg=false)=>(show num7 l=none by rw [num7,if_neg hsp,if_neg (by rw [h];simp)]))
 have hcase:¬((1:Int)<(l.length:Int))∨((1:Int)<(l.length:Int)∧(((l.getD 0 0).toNat:Int)==48)=false):=by
  by_cases h1:1<l.length
  ·refine .inr ⟨by omega,?_⟩
   rw [beq_eq_false_iff_ne]
   intro h
   exact hz ⟨h1,UInt8.toNat_inj.1 (by rw [show (48:UInt8).toNat=48 from rfl];omega)⟩
  ·exact .inl (by omega)
 clear hsp hz
 generalize l.getD 0 0=z0 at *
 rcases hcase with p1 | ⟨p1,hne⟩
 all_goals
  go_enter Tryz.func32,Tryz.ntmps32
  go_wp2_with fail
  go_loopw [4,5] (fun x i wr=>∃k:Nat,x = .int .i64 (valD (l.take k):Int)∧i = .int .i64 k∧k≤l.length∧Hid ((l.take k).all isDg=true)∧Hid (Ext w wr)) (fun _ i _=>l.length-(intOf i).toNat)
  case atStart=>exact ⟨0,rfl,rfl,by omega,Lib.hid rfl,Lib.hid (Ext.refl _)⟩
  case round =>
   obtain ⟨k,rfl,rfl,hk,HA,HE⟩:=hrel
   have hvs:=zkZ HA.out
   rw [List.length_take] at hvs
   have hpw:10 ^ min k l.length≤10 ^ 7:=Nat.pow_le_pow_right (by omega) (by omega)
   have hvs2:valD (l.take k)<10000000:=by omega
   clear hvs hpw
   have q0:(0:Int)≤(k:Int):=by omega
   by_cases h1:k<l.length
   ·have q1:(k:Int)<(l.length:Int):=by omega
    have h5:=zan l k
    by_cases hd:isDg (l.getD k 0)=true
    ·have hv:=zcW h1
     have ha:=zdp h1
     rw [HA.out,hd] at ha
     have HA2:=Lib.hid ha
     obtain ⟨d1,d2⟩:=zcI hd
     have HV:=Lib.hid hv
     generalize l.getD k 0=d at *
     generalize valD (l.take k)=V at *
     clear hv ha hd
     have e1:((d.toNat:Int)<48)=False:=by simp <;> omega
     have e2:((57:Int)<(d.toNat:Int))=False:=by simp <;> omega
     have i1:=IntWalk.i64_in (10*(V:Int)) ⟨by omega,by omega⟩
     have i2:=IntWalk.i64_in (10*(V:Int)+((d.toNat:Int)-48)) ⟨by omega,by omega⟩
     have i3:IntKind.u8.wrap ((d.toNat:Int)-48)=(d.toNat:Int)-48:=by rw [IntKind.wrap_u8];omega
     have i4:=IntWalk.i64_in ((d.toNat:Int)-48) ⟨by omega,by omega⟩
     go_wp2_with fail
     go_roundw
     case rel=>exact ⟨k+1,by rw [HV.out];congr 1;omega,by go_num,by omega,HA2,HE⟩
     case measure=>simp [intOf] <;> omega
    ·have hd:isDg (l.getD k 0)=false:=by simpa using hd
     have HN:=Lib.hid (HNO.out (ze3 h1 hd))
     have hcm:((l.getD k 0).toNat:Int)<48∨(57:Int)<((l.getD k 0).toNat:Int):=by
      rw [isDg,Bool.and_eq_false_iff,decide_eq_false_iff_not,decide_eq_false_iff_not,UInt8.le_iff_toNat_le,UInt8.le_iff_toNat_le] at hd
      have e48:(48:UInt8).toNat=48:=rfl
      have e57:(57:UInt8).toNat=57:=rfl
      omega
     generalize l.getD k 0=d at *
     clear hd
     rcases hcm with e1 | e1
     ·go_wp2_with fail
      go_ret2
      exact zcP HN.out HE.out
     ·have e2:¬((d.toNat:Int)<48):=by omega
      go_wp2_with fail
      go_ret2
      exact zcP HN.out HE.out
   ·obtain rfl:k=l.length:=by omega
    have e9:l.take l.length=l:=List.take_of_length_le (Nat.le_refl _)
    rw [e9] at HA ⊢
    have HY:=Lib.hid (HYES.out HA.out)
    go_wp2_with fail
    go_ret2
    exact zkh HY.out HE.out
end Go.Proofs.YtkneghkbgingdaaGreatDoor
/- What the rows' listed variables give. -/
namespace Go.Proofs.YtkneghkbgingdaaGreatDoor
set_option maxRecDepth 100000
open Go.ChangeShapes Go.WideShapes Go.ChangeAt Go.RowKit
theorem zgs : "*" ++ "errors.errorString" = "*errors.errorString" := by decide
theorem ziP (u:TypeId) (h:Tryz.prog.typeName? 3 u=some "*errors.errorString"):u=260 :=
 typeName_ptr_named (nm := "errors.errorString") (by rw [zgs];kernel_rfl) (by kernel_rfl) (by decide) u (by rw [zgs];exact h)
theorem zmb:Rows.laid_internal_strconv_uint64pow10 (H:=Unit)=Lib.tabData .u64 Lib.pow10Tab:=by rfl
theorem zlS {W:World} (hL:laidMet Tryz.prog [("math/bits.deBruijn32tab",Rows.laid_math_bits_deBruijn32tab),("math/bits.deBruijn64tab",Rows.laid_math_bits_deBruijn64tab),("internal/strconv.uint64pow10",Rows.laid_internal_strconv_uint64pow10),("unicode/utf8.acceptRanges",Rows.laid_unicode_utf8_acceptRanges),("strconv.ErrRange",Rows.laid_strconv_ErrRange),("strconv.ErrSyntax",Rows.laid_strconv_ErrSyntax),("unicode/utf8.first",Rows.laid_unicode_utf8_first)] W) (hsh:W.ShapedOpen Tryz.prog):Glob W:=by
 have h1:=laidMet.tail (laidMet.tail hL)
 have h2:=laidMet.tail (laidMet.tail h1)
 have h3:=laidMet.tail h2
 rw [zmb] at h1
 refine ⟨Lib.tabIs_of_head (g:=1) (t:=221) (e:=179) (n:=20) (by kernel_rfl) (by kernel_rfl) (by kernel_rfl) (by kernel_rfl) (by kernel_rfl) (by kernel_rfl) h1,?_,?_,Tryz.laysM146.s1_3 W hsh⟩
 ·obtain ⟨a,s,h, -⟩:=laid_sentinel (g:=2) (ti:=83) (tp:=260) (te:=262) (ts:=9) h3 (by kernel_rfl) (by kernel_rfl) Tryz.underlying83 ziP (by kernel_rfl) Tryz.underlying262 rfl rfl (by kernel_rfl) (by kernel_rfl) (by kernel_rfl)
  exact ⟨_,_,h⟩
 ·obtain ⟨a,s,h, -⟩:=laid_sentinel (g:=3) (ti:=83) (tp:=260) (te:=262) (ts:=9) h2 (by kernel_rfl) (by kernel_rfl) Tryz.underlying83 ziP (by kernel_rfl) Tryz.underlying262 rfl rfl (by kernel_rfl) (by kernel_rfl) (by kernel_rfl)
  exact ⟨_,_,h⟩
end Go.Proofs.YtkneghkbgingdaaGreatDoor
