/- Part of a chart, both. -/
import Derived.Test.YtkneghkbgingdaaGreatDoorK46
import Derived.Test.YtkneghkbgingdaaGreatDoorTie
set_option maxHeartbeats 16000000
namespace Go.Proofs.YtkneghkbgingdaaGreatDoor
set_option maxRecDepth 100000
open Go.RowKit Go.ChangeShapes Go.WideShapes Go.Joins
def partE (s:Int) (l:List Ro) (i j:Int):Int:=if chkC s l≠0 then chkC s l else if i<0∨j<i∨(l.length:Int)<j then 2 else 0
def partL (s:Int) (l:List Ro) (i j:Int):List Ro:=if partE s l i j=0 then (l.drop i.toNat).take (j.toNat-i.toNat) else []
def partS (s:Int) (l:List Ro) (i j:Int):Int:=if partE s l i j=0 then (cntC s l).getD i.toNat 0 else 0
theorem znI {s:Int} {l:List Ro} {i j x:Int} (h:chkC s l=x) (h0:x≠0):partE s l i j=x∧partL s l i j=[]∧partS s l i j=0:=by
 have h1:partE s l i j=x:=by rw [partE,if_pos (by rw [h];exact h0),h]
 exact ⟨h1,by rw [partL,if_neg (by rw [h1];exact h0)],by rw [partS,if_neg (by rw [h1];exact h0)]⟩
theorem zi3 {s:Int} {l:List Ro} {i j:Int} (h:chkC s l=0) (hi:i<0∨j<i∨(l.length:Int)<j):partE s l i j=2∧partL s l i j=[]∧partS s l i j=0:=by
 have h1:partE s l i j=2:=by rw [partE,if_neg (by simpa using h),if_pos hi]
 exact ⟨h1,by rw [partL,if_neg (by rw [h1];decide)],by rw [partS,if_neg (by rw [h1];decide)]⟩
theorem zlQ {s:Int} {l:List Ro} {k q:Nat} (h:chkC s l=0) (h1:k≤q) (h2:q≤l.length):partE s l k q=0∧partL s l k q=(l.drop k).take (q-k)∧partS s l k q=(cntC s l).getD k 0:=by
 have h1:partE s l (k:Int) (q:Int)=0:=by rw [partE,if_neg (by simpa using h),if_neg (by omega)]
 exact ⟨h1,by rw [partL,if_pos h1];rfl,by rw [partS,if_pos h1];rfl⟩
theorem zlG {s:Int} {l:List Ro} {w:World} {A:Option Addr} {n k:Nat} (h:Ints w A n (cntC s l)) (hk:k≤l.length):n=l.length+1∧∃b off,A=some ⟨b,off,none⟩∧b<w.heap.size∧w.cell? ⟨b,off+k,none⟩=some (.int .i64 ((cntC s l).getD k 0)):=by
 have hn:n=l.length+1:=by rw [←h.1,zkb]
 obtain ⟨b,off,e,hb,hc⟩:=h.2 (by omega)
 exact ⟨hn,b,off,e,hb,hc k (by omega)⟩
theorem ChR.no {w w':World} {e:Ending} {x:Int} (h:e = .returned (.tuple #[.agg #[.int .i64 0,.slice none 0 0],.int .i64 x])) (hb:Ext w w'):ChR 0 [] x w e w':=⟨none,0,0,h,hb,Rws.none_ _ _ _⟩
theorem zdG {l:List Ro} {m k q:Nat} (h:∀j,j<m→(l.getD j ro0).cells.length≤1000) (hq:q≤m):∀j,j<q-k→(((l.drop k).take (q-k)).getD j ro0).cells.length≤1000:=fun j hj=>by
 rw [Zc,List.getElem?_take,if_pos hj,Z6,←Zc]
 exact h (k+j) (by omega)
set_option maxRecDepth 100000 in
theorem zij (s i j:Int) (A:Option Addr) (m c:Nat) (la:List Ro) (w:World) (ha:Rws w (fun _=>True) A m la) (hcap:m≤c) :
  Calls Tryz.prog 55 #[.agg #[.int .i64 s,.slice A m c],.int .i64 i,.int .i64 j] w (ChR (partS s la i j) (partL s la i j) (partE s la i j) w):=by
 have HLA:=Za ha.len
 have HA:=Za ha
 clear ha
 have hB0:=Za (show Ext w ((w.alloc (.cells #[.int .i64 s,.slice A m c] 24)).alloc (.cells #[.int .i64 0,.slice none 0 0] 24)) from ((Zd _).alloc _).alloc _)
 have hb:Ext ((w.alloc (.cells #[.int .i64 s,.slice A m c] 24)).alloc (.cells #[.int .i64 0,.slice none 0 0] 24)) ((w.alloc (.cells #[.int .i64 s,.slice A m c] 24)).alloc (.cells #[.int .i64 0,.slice none 0 0] 24)):=Zd _
 have hlt2:w.heap.size<w.heap.size+1+1:=by omega
 obtain ⟨hc,hf,hz⟩:=hb.facts
 have HU0:=Za (fun (w':World) (h:Ext ((w.alloc (.cells #[.int .i64 s,.slice A m c] 24)).alloc (.cells #[.int .i64 0,.slice none 0 0] 24)) w')=>(show w'.cell? ⟨w.heap.size+1,0,none⟩=some (.int .i64 0) by rw [(Ext.facts h).1 _ _ (by simp only [ZI];omega)];simp [go_sem]))
 have HU1:=Za (fun (w':World) (h:Ext ((w.alloc (.cells #[.int .i64 s,.slice A m c] 24)).alloc (.cells #[.int .i64 0,.slice none 0 0] 24)) w')=>(show w'.cell? ⟨w.heap.size+1,1,none⟩=some (.slice none 0 0) by rw [(Ext.facts h).1 _ _ (by simp only [ZI];omega)];simp [go_sem]))
 by_cases h1:chkC s la=0
 case neg =>
  obtain ⟨x,hx⟩:∃x,chkC s la=x:=⟨_,rfl⟩
  rw [hx] at h1
  obtain ⟨e1,e2,e3⟩:=znI (i:=i) (j:=j) hx h1
  rw [e1,e2,e3]
  have HC1:=Za hx
  have hne:(x != 0)=true:=by simpa using h1
  clear h1 e1 e2 e3 hx
  go_enter Tryz.func55,Tryz.ntmps55
  go_wp2_with (first | (go_at_call 86;((with_reducible refine (zaQ s A m c la _ (HA.out.ext (hB0.out.trans (hb.trans (by repeat (first | exact Zd _ | refine ZN ?_ | refine Ext.drewN ?_ _ | refine Zl ?_ _)))))).mono ?_);intro e w1 hr1;obtain ⟨A1,n1,c1,rfl,hq1⟩:=hr1.out_no;rw [HC1.out];replace hb:=Ext.via hb hq1 (by repeat (first | exact Zd _ | refine ZN ?_ | refine Ext.drewN ?_ _ | refine Zl ?_ _));clear hq1 hr1;obtain ⟨hc,hf,hz⟩:=hb.facts)))
  obtain ⟨k0,k1⟩:=zar (v0 := .int .i64 0) (v1 := .slice none 0 0) (HU0.out _ hb) (HU1.out _ hb)
  have HX9:=Za (hB0.out.trans hb)
  clear hc hf hz
  exact bodyPost_ret (v := .tuple #[.agg #[.int .i64 0,.slice none 0 0],.int .i64 x]) (by simp [results,Tryz.f55,go_sem,k0,k1]) rfl (ChR.no rfl (Zi (Zi HX9.out (by simp) _) (by simp) _))
 by_cases hx:i<0
 ·obtain ⟨e1,e2,e3⟩:=zi3 (i:=i) (j:=j) h1 (.inl hx)
  rw [e1,e2,e3]
  have HC1:=Za h1
  clear h1 e1 e2 e3
  go_enter Tryz.func55,Tryz.ntmps55
  go_wp2_with (first | (go_at_call 86;((with_reducible refine (zaQ s A m c la _ (HA.out.ext (hB0.out.trans (hb.trans (by repeat (first | exact Zd _ | refine ZN ?_ | refine Ext.drewN ?_ _ | refine Zl ?_ _)))))).mono ?_);intro e w1 hr1;obtain ⟨A1,n1,c1,rfl,hq1⟩:=hr1.out_no;rw [HC1.out];replace hb:=Ext.via hb hq1 (by repeat (first | exact Zd _ | refine ZN ?_ | refine Ext.drewN ?_ _ | refine Zl ?_ _));clear hq1 hr1;obtain ⟨hc,hf,hz⟩:=hb.facts)))
  obtain ⟨k0,k1⟩:=zar (v0 := .int .i64 0) (v1 := .slice none 0 0) (HU0.out _ hb) (HU1.out _ hb)
  have HX9:=Za (hB0.out.trans hb)
  clear hc hf hz
  exact bodyPost_ret (v := .tuple #[.agg #[.int .i64 0,.slice none 0 0],.int .i64 2]) (by simp [results,Tryz.f55,go_sem,k0,k1]) rfl (ChR.no rfl (Zi (Zi HX9.out (by simp) _) (by simp) _))
 by_cases hx:j<i
 ·obtain ⟨e1,e2,e3⟩:=zi3 (i:=i) (j:=j) h1 (.inr (.inl hx))
  rw [e1,e2,e3]
  have HC1:=Za h1
  clear h1 e1 e2 e3
  go_enter Tryz.func55,Tryz.ntmps55
  go_wp2_with (first | (go_at_call 86;((with_reducible refine (zaQ s A m c la _ (HA.out.ext (hB0.out.trans (hb.trans (by repeat (first | exact Zd _ | refine ZN ?_ | refine Ext.drewN ?_ _ | refine Zl ?_ _)))))).mono ?_);intro e w1 hr1;obtain ⟨A1,n1,c1,rfl,hq1⟩:=hr1.out_no;rw [HC1.out];replace hb:=Ext.via hb hq1 (by repeat (first | exact Zd _ | refine ZN ?_ | refine Ext.drewN ?_ _ | refine Zl ?_ _));clear hq1 hr1;obtain ⟨hc,hf,hz⟩:=hb.facts)))
  obtain ⟨k0,k1⟩:=zar (v0 := .int .i64 0) (v1 := .slice none 0 0) (HU0.out _ hb) (HU1.out _ hb)
  have HX9:=Za (hB0.out.trans hb)
  clear hc hf hz
  exact bodyPost_ret (v := .tuple #[.agg #[.int .i64 0,.slice none 0 0],.int .i64 2]) (by simp [results,Tryz.f55,go_sem,k0,k1]) rfl (ChR.no rfl (Zi (Zi HX9.out (by simp) _) (by simp) _))
 by_cases hx:(m:Int)<j
 ·obtain ⟨e1,e2,e3⟩:=zi3 (i:=i) (j:=j) h1 (.inr (.inr (by rw [HLA.out];exact hx)))
  rw [e1,e2,e3]
  have HC1:=Za h1
  clear h1 e1 e2 e3
  go_enter Tryz.func55,Tryz.ntmps55
  go_wp2_with (first | (go_at_call 86;((with_reducible refine (zaQ s A m c la _ (HA.out.ext (hB0.out.trans (hb.trans (by repeat (first | exact Zd _ | refine ZN ?_ | refine Ext.drewN ?_ _ | refine Zl ?_ _)))))).mono ?_);intro e w1 hr1;obtain ⟨A1,n1,c1,rfl,hq1⟩:=hr1.out_no;rw [HC1.out];replace hb:=Ext.via hb hq1 (by repeat (first | exact Zd _ | refine ZN ?_ | refine Ext.drewN ?_ _ | refine Zl ?_ _));clear hq1 hr1;obtain ⟨hc,hf,hz⟩:=hb.facts)))
  obtain ⟨k0,k1⟩:=zar (v0 := .int .i64 0) (v1 := .slice none 0 0) (HU0.out _ hb) (HU1.out _ hb)
  have HX9:=Za (hB0.out.trans hb)
  clear hc hf hz
  exact bodyPost_ret (v := .tuple #[.agg #[.int .i64 0,.slice none 0 0],.int .i64 2]) (by simp [results,Tryz.f55,go_sem,k0,k1]) rfl (ChR.no rfl (Zi (Zi HX9.out (by simp) _) (by simp) _))
 obtain ⟨k,rfl⟩:∃k:Nat,i=(k:Int):=⟨i.toNat,by omega⟩
 obtain ⟨q,rfl⟩:∃q:Nat,j=(q:Int):=⟨j.toNat,by omega⟩
 have hkq:k≤q:=by omega
 have hqm:q≤m:=by omega
 obtain ⟨e1,e2,e3⟩:=zlQ (k:=k) (q:=q) h1 hkq (by rw [HLA.out];exact hqm)
 rw [e1,e2,e3]
 have HC1:=Za h1
 have HKM:=Za (show k≤la.length by rw [HLA.out];omega)
 have hm9:m≤100:=by rw [←HLA.out];exact (zeP h1).1
 have HCA:=Za (show ∀k,k<m→(la.getD k ro0).cells.length≤1000 by rw [←HLA.out];exact (zeP h1).2)
 have q0:(0:Int)≤(k:Int):=by omega
 have q1:(k:Int)≤(q:Int):=by omega
 have q2:(q:Int)≤(m:Int):=by omega
 have q3:(q:Int)≤(c:Int):=by omega
 have q4:(k:Int)<(la.length:Int)+1:=by have:=HKM.out;omega
 clear h1 e1 e2 e3
 have HPT:=Za (HA.out.part hkq hqm)
 have HAT:=Za (show k<q→∃b off,A=some ⟨b,off,none⟩ from fun h=>by
  obtain ⟨b,off,_,_,_,e,_⟩:=HA.out.at_ (k:=k) (by omega)
  exact ⟨b,off,e⟩)
 by_cases hck:c=k
 case pos =>
   have hce:∀(x y:Option Addr),(if c=k then x else y)=x:=fun x y=>if_pos hck
   have HQK:=Za (show q-k=0 by omega)
   clear hck
   go_enter Tryz.func55,Tryz.ntmps55
   go_wp2_with (first | (go_at_call 86;((with_reducible refine (zaQ s A m c la _ (HA.out.ext (hB0.out.trans (hb.trans (by repeat (first | exact Zd _ | refine ZN ?_ | refine Ext.drewN ?_ _ | refine Zl ?_ _)))))).mono ?_);intro e w1 hr1;obtain ⟨A1,n1,c1,rfl,hq1,hi1,hfr1⟩:=hr1.out_ok HC1.out;have HE1:=Za (show Ext ((w.alloc (.cells #[.int .i64 s,.slice A m c] 24)).alloc (.cells #[.int .i64 0,.slice none 0 0] 24)) w1 from hb.trans (Zb (by repeat (first | exact Zd _ | refine ZN ?_ | refine Ext.drewN ?_ _ | refine Zl ?_ _)) hq1));replace hb:=Ext.via hb hq1 (by repeat (first | exact Zd _ | refine ZN ?_ | refine Ext.drewN ?_ _ | refine Zl ?_ _));clear hq1 hr1;obtain ⟨hc,hf,hz⟩:=hb.facts;obtain ⟨rfl,b1,o1,rfl,hb1,hl1⟩:=zlG hi1 HKM.out;have hfr2:=hfr1 _ _ rfl;clear hi1 hfr1)))
   obtain ⟨hc,hf,hz⟩:=Ext.facts hb
   have m1:w1.cell? ⟨w.heap.size,1,none⟩=some (.slice A m c):=by rw [hc _ _ (by simp only [ZI];omega)];simp [go_sem]
   have k0:=HU0.out _ hb
   have k1:=HU1.out _ hb
   have k2:w1.frozen? ⟨w.heap.size+1,0,none⟩=false:=by rw [hf _ _ (by simp only [ZI];omega)];simp [go_sem]
   have k3:w1.frozen? ⟨w.heap.size+1,1,none⟩=false:=by rw [hf _ _ (by simp only [ZI];omega)];simp [go_sem]
   have hz9:w.heap.size+1+1≤w1.heap.size:=by have h9:=Zr hb;simp only [ZI] at h9;omega
   have z0:w.heap.size<w1.heap.size:=by omega
   have z2:w.heap.size+1<w1.heap.size:=by omega
   simp only [ZI] at hfr2
   have z3:¬(b1=w.heap.size+1):=by omega
   have z4:¬(w.heap.size+1=b1):=by omega
   have HBQ:=Za hb
   clear hc hf hz hlt2
   go_region_held3 (fun w'=>w'.cell? ⟨w.heap.size,1,none⟩=some (.slice A m c)∧w'.cell? ⟨b1,o1+k,none⟩=some (.int .i64 ((cntC s la).getD k 0))) (go_keep)
    (first
     | (go_at_call 87;(((with_reducible refine (zeQ _ (q-k) _ ((la.drop k).take (q-k)) _ ((HPT.out _ (fun h=>by have:=HQK.out;exact absurd h (by omega))).ext (hB0.out.trans (hb.trans (by repeat (first | exact Zd _ | refine ZN ?_ | refine Ext.drewN ?_ _ | refine Zl ?_ _))))) (by omega) (zdG HCA.out hqm)).mono ?_);rintro e w4 ⟨V1,rfl,hq4,ho4⟩;have HE4:=Za (show Ext w1 w4 from Zb (by repeat (first | exact Zd _ | refine ZN ?_ | refine Ext.drewN ?_ _ | refine Zl ?_ _)) hq4);replace hb:=HBQ.out.trans HE4.out;clear hq4;obtain ⟨hc,hf,hz⟩:=HE4.out.facts;obtain ⟨A6,c6,rfl,hr6⟩:=ziY (show OwnR w4 w1.heap.size 75 V1 _ _ from ho4) (by rw [Zy];omega);rw [Zy,ZD] at hr6;have HR6:=Za hr6;clear hr6 ho4))))
   go_wp2
   obtain ⟨y0,y1⟩:=zar (v0 := .int .i64 ((cntC s la)[k]?.getD 0)) (v1 := .slice A6 (min (q-k) (la.length-k)) c6) (HU0.out w4 hb) (HU1.out w4 hb)
   have HX9:=Za (hB0.out.trans hb)
   have HR9:=Za (zej (g:=w.heap.size+1) (v0 := .int .i64 ((cntC s la)[k]?.getD 0)) (v1 := .slice A6 (min (q-k) (la.length-k)) c6) HR6.out z2 (by omega:w.heap.size≤w1.heap.size))
   exact bodyPost_ret (v := .tuple #[.agg #[.int .i64 ((cntC s la)[k]?.getD 0),.slice A6 (min (q-k) (la.length-k)) c6],.int .i64 0]) (by simp [results,Tryz.f55,go_sem,y0,y1]) rfl ⟨A6,_,c6,by rw [Zc],Zi (Zi HX9.out (by simp) _) (by simp) _,HR9.out⟩
 go_enter Tryz.func55,Tryz.ntmps55
 go_wp2_with (first | (go_at_call 86;((with_reducible refine (zaQ s A m c la _ (HA.out.ext (hB0.out.trans (hb.trans (by repeat (first | exact Zd _ | refine ZN ?_ | refine Ext.drewN ?_ _ | refine Zl ?_ _)))))).mono ?_);intro e w1 hr1;obtain ⟨A1,n1,c1,rfl,hq1,hi1,hfr1⟩:=hr1.out_ok HC1.out;have HE1:=Za (show Ext ((w.alloc (.cells #[.int .i64 s,.slice A m c] 24)).alloc (.cells #[.int .i64 0,.slice none 0 0] 24)) w1 from hb.trans (Zb (by repeat (first | exact Zd _ | refine ZN ?_ | refine Ext.drewN ?_ _ | refine Zl ?_ _)) hq1));replace hb:=Ext.via hb hq1 (by repeat (first | exact Zd _ | refine ZN ?_ | refine Ext.drewN ?_ _ | refine Zl ?_ _));clear hq1 hr1;obtain ⟨hc,hf,hz⟩:=hb.facts;obtain ⟨rfl,b1,o1,rfl,hb1,hl1⟩:=zlG hi1 HKM.out;have hfr2:=hfr1 _ _ rfl;clear hi1 hfr1)))
 obtain ⟨hc,hf,hz⟩:=Ext.facts hb
 have m1:w1.cell? ⟨w.heap.size,1,none⟩=some (.slice A m c):=by rw [hc _ _ (by simp only [ZI];omega)];simp [go_sem]
 have k0:=HU0.out _ hb
 have k1:=HU1.out _ hb
 have k2:w1.frozen? ⟨w.heap.size+1,0,none⟩=false:=by rw [hf _ _ (by simp only [ZI];omega)];simp [go_sem]
 have k3:w1.frozen? ⟨w.heap.size+1,1,none⟩=false:=by rw [hf _ _ (by simp only [ZI];omega)];simp [go_sem]
 have hz9:w.heap.size+1+1≤w1.heap.size:=by have h9:=Zr hb;simp only [ZI] at h9;omega
 have z0:w.heap.size<w1.heap.size:=by omega
 have z2:w.heap.size+1<w1.heap.size:=by omega
 simp only [ZI] at hfr2
 have z3:¬(b1=w.heap.size+1):=by omega
 have z4:¬(w.heap.size+1=b1):=by omega
 have HBQ:=Za hb
 clear hc hf hz hlt2
 go_region_held3 (fun w'=>w'.cell? ⟨w.heap.size,1,none⟩=some (.slice A m c)∧w'.cell? ⟨b1,o1+k,none⟩=some (.int .i64 ((cntC s la).getD k 0))) (go_keep)
  (first
   | (go_at_call 87;(((with_reducible refine (zeQ _ (q-k) _ ((la.drop k).take (q-k)) _ ((HPT.out _ (fun h=>by obtain ⟨b,off,e⟩:=HAT.out h;exact ⟨b,off,e,by rw [e];simp [Addr.add]⟩)).ext (hB0.out.trans (hb.trans (by repeat (first | exact Zd _ | refine ZN ?_ | refine Ext.drewN ?_ _ | refine Zl ?_ _))))) (by omega) (zdG HCA.out hqm)).mono ?_);rintro e w4 ⟨V1,rfl,hq4,ho4⟩;have HE4:=Za (show Ext w1 w4 from Zb (by repeat (first | exact Zd _ | refine ZN ?_ | refine Ext.drewN ?_ _ | refine Zl ?_ _)) hq4);replace hb:=HBQ.out.trans HE4.out;clear hq4;obtain ⟨hc,hf,hz⟩:=HE4.out.facts;obtain ⟨A6,c6,rfl,hr6⟩:=ziY (show OwnR w4 w1.heap.size 75 V1 _ _ from ho4) (by rw [Zy];omega);rw [Zy,ZD] at hr6;have HR6:=Za hr6;clear hr6 ho4))))
 go_wp2
 obtain ⟨y0,y1⟩:=zar (v0 := .int .i64 ((cntC s la)[k]?.getD 0)) (v1 := .slice A6 (min (q-k) (la.length-k)) c6) (HU0.out w4 hb) (HU1.out w4 hb)
 have HX9:=Za (hB0.out.trans hb)
 have HR9:=Za (zej (g:=w.heap.size+1) (v0 := .int .i64 ((cntC s la)[k]?.getD 0)) (v1 := .slice A6 (min (q-k) (la.length-k)) c6) HR6.out z2 (by omega:w.heap.size≤w1.heap.size))
 exact bodyPost_ret (v := .tuple #[.agg #[.int .i64 ((cntC s la)[k]?.getD 0),.slice A6 (min (q-k) (la.length-k)) c6],.int .i64 0]) (by simp [results,Tryz.f55,go_sem,y0,y1]) rfl ⟨A6,_,c6,by rw [Zc],Zi (Zi HX9.out (by simp) _) (by simp) _,HR9.out⟩
end Go.Proofs.YtkneghkbgingdaaGreatDoor
/- Section: the program's and the reference's. -/
namespace Go.Proofs.YtkneghkbgingdaaGreatDoor
set_option maxRecDepth 100000
open Go.RowKit Go.ChangeShapes Go.WideShapes Go.Joins
def secI (se:List Sec) (name:List UInt8):Int:=idxN (seN se) name se.length 0
def secE (nm:List UInt8) (ge:Int) (st:List Stf) (se:List Sec) (name:List UInt8):Int:=if patE nm ge st se≠0 then patE nm ge st se else if secI se name<0 then 6 else 0
def secS (nm:List UInt8) (ge:Int) (st:List Stf) (se:List Sec) (name:List UInt8):Int:=if secE nm ge st se name=0 then (se.getD (secI se name).toNat sec0).s else 0
def secL (nm:List UInt8) (ge:Int) (st:List Stf) (se:List Sec) (name:List UInt8):List Ro:=if secE nm ge st se name=0 then (se.getD (secI se name).toNat sec0).rows else []
section
variable {nm name:List UInt8} {ge x:Int} {st:List Stf} {se:List Sec}
theorem zoy (h:patE nm ge st se=x) (h0:x≠0):secE nm ge st se name=x∧secS nm ge st se name=0∧secL nm ge st se name=[]:=by
 have h1:secE nm ge st se name=x:=by rw [secE,if_pos (by rw [h];exact h0),h]
 exact ⟨h1,by rw [secS,if_neg (by rw [h1];exact h0)],by rw [secL,if_neg (by rw [h1];exact h0)]⟩
theorem zoz (h:patE nm ge st se=0) (hi:secI se name = -1):secE nm ge st se name=6∧secS nm ge st se name=0∧secL nm ge st se name=[]:=by
 have h1:secE nm ge st se name=6:=by rw [secE,if_neg (fun h9=>h9 h),if_pos (by rw [hi];omega)]
 exact ⟨h1,by rw [secS,if_neg (by rw [h1];decide)],by rw [secL,if_neg (by rw [h1];decide)]⟩
theorem zoA {k:Nat} (h:patE nm ge st se=0) (hi:secI se name=(k:Int)):secE nm ge st se name=0∧secS nm ge st se name=(se.getD k sec0).s∧secL nm ge st se name=(se.getD k sec0).rows:=by
 have h1:secE nm ge st se name=0:=by rw [secE,if_neg (fun h9=>h9 h),if_neg (by rw [hi];omega)]
 exact ⟨h1,by rw [secS,if_pos h1,hi,Int.toNat_natCast],by rw [secL,if_pos h1,hi,Int.toNat_natCast]⟩
end
def SecR (s:Int) (l:List Ro) (x:Int) (w:World) (e:Ending) (w':World):Prop:=∃(A:Option Addr) (n c:Nat),e = .returned (.tuple #[.agg #[.int .i64 s,.slice A n c],.int .i64 x])∧Ext w w'∧Rws w' (fun b=>w.heap.size≤b) A n l
theorem BoxC.free {w:World} {b:Nat} {s:Int} {A:Option Addr} {n c:Nat} (h:BoxC w b s A n c) (j:Nat):w.frozen? ⟨b,j,none⟩=false:=frozen_of_row w b j _ _ h
theorem BoxC.second (w:World) (o:Obj):BoxC ((w.alloc o).alloc (.cells #[.int .i64 0,.slice none 0 0] 24)) (w.heap.size+1) 0 none 0 0:=by
 have h:=BoxC.start (w.alloc o) 0 none 0 0
 have e:(w.alloc o).heap.size=w.heap.size+1:=by simp
 rw [e] at h
 exact h
theorem zgf {w w5:World} {s:Int} {A:Option Addr} {n c:Nat} {l:List Ro} (hb:BoxC w5 (w.heap.size+1) 0 none 0 0) (hx:Ext w w5) (hr:Rws w5 (fun b=>w.heap.size+2≤b) A n l) :
  Ext w ((w5.setCell ⟨w.heap.size+1,0,none⟩ (.int .i64 s)).setCell ⟨w.heap.size+1,1,none⟩ (.slice A n c))∧Rws ((w5.setCell ⟨w.heap.size+1,0,none⟩ (.int .i64 s)).setCell ⟨w.heap.size+1,1,none⟩ (.slice A n c)) (fun b=>w.heap.size≤b) A n l ∧
   (w5.setCell ⟨w.heap.size+1,0,none⟩ (.int .i64 s)).cell? ⟨w.heap.size+1,0,none⟩=some (.int .i64 s)∧((w5.setCell ⟨w.heap.size+1,0,none⟩ (.int .i64 s)).setCell ⟨w.heap.size+1,1,none⟩ (.slice A n c)).cell? ⟨w.heap.size+1,1,none⟩=some (.slice A n c):=by
 obtain ⟨y0,y1,yz⟩:=hb.facts
 obtain ⟨k0,k1⟩:=zar (v0 := .int .i64 s) (v1 := .slice A n c) y0 y1
 refine ⟨Zi (Zi hx (by simp) _) (by simp) _,hr.keep (by simp [World.setCell]) fun b _ hk=>⟨ZB (Nat.le_add_right _ 2) hk,fun o=>?_⟩,k0,k1⟩
 have hk2:w.heap.size+2≤b:=hk
 rw [Zj _ _ _ _ (by intro e;simp at e <;> omega),Zj _ _ _ _ (by intro e;simp at e <;> omega)]
theorem zcV (nm:List UInt8) (g1 g2 g3 g4:Int) (As:Option Addr) (ns cs:Nat) (st:List Stf) (Ac:Option Addr) (nc cc:Nat) (se:List Sec) (w:World) (name:List UInt8) (hs:Vec shStf w As ns st) (hc:Secs w Ac nc se)
  (hnl:nm.length≤100000) (hsl:∀i,i<ns→(stN st i).length≤100000) (hcl:∀i,i<nc→(seN se i).length≤100000) (hn1:ns≤10000) (hn2:nc≤10000) :
  Calls Tryz.prog 25 #[.agg #[.string ⟨nm.toArray⟩,.int .i64 g1,.int .i64 g2,.int .i64 g3,.int .i64 g4,.slice As ns cs,.slice Ac nc cc],.string ⟨name.toArray⟩] w (SecR (secS nm (gerr g1 g2 g3 g4) st se name) (secL nm (gerr g1 g2 g3 g4) st se name) (secE nm (gerr g1 g2 g3 g4) st se name) w):=by
 have HLC:=Za hc.len
 have HSV:=Za hs
 have HCV:=Za hc
 have HBX:=Za ((BoxP.start w nm g1 g2 g3 g4 As ns cs Ac nc cc).ext ((Zd (w.alloc (.cells #[.string ⟨nm.toArray⟩,.int .i64 g1,.int .i64 g2,.int .i64 g3,.int .i64 g4,.slice As ns cs,.slice Ac nc cc] 42))).alloc (.cells #[.int .i64 0,.slice none 0 0] 24)))
 have HRB:=Za (BoxC.second w (.cells #[.string ⟨nm.toArray⟩,.int .i64 g1,.int .i64 g2,.int .i64 g3,.int .i64 g4,.slice As ns cs,.slice Ac nc cc] 42))
 have HW0:=Za (show Ext w ((w.alloc (.cells #[.string ⟨nm.toArray⟩,.int .i64 g1,.int .i64 g2,.int .i64 g3,.int .i64 g4,.slice As ns cs,.slice Ac nc cc] 42)).alloc (.cells #[.int .i64 0,.slice none 0 0] 24)) from ((Zd w).alloc _).alloc _)
 have HZW:=Za (show ((w.alloc (.cells #[.string ⟨nm.toArray⟩,.int .i64 g1,.int .i64 g2,.int .i64 g3,.int .i64 g4,.slice As ns cs,.slice Ac nc cc] 42)).alloc (.cells #[.int .i64 0,.slice none 0 0] 24)).heap.size=w.heap.size+2 by simp)
 have HCK:=Za (fun (w':World) (hx:Ext ((w.alloc (.cells #[.string ⟨nm.toArray⟩,.int .i64 g1,.int .i64 g2,.int .i64 g3,.int .i64 g4,.slice As ns cs,.slice Ac nc cc] 42)).alloc (.cells #[.int .i64 0,.slice none 0 0] 24)) w')=>za2 nm g1 g2 g3 g4 As ns cs st Ac nc cc se w' (HSV.out.ext (HW0.out.trans hx)) (HCV.out.ext (HW0.out.trans hx)) hnl hsl hcl hn1 hn2)
 obtain ⟨R,hR⟩:∃R,patE nm (gerr g1 g2 g3 g4) st se=R:=⟨_,rfl⟩
 have HR:=Za hR
 rw [hR] at HCK
 clear hs hc hsl hcl hR
 by_cases h0:R=0
 case neg =>
  have HV:=Za (zoy (name:=name) HR.out h0)
  have p7:(R != 0)=true:=by simpa using h0
  clear h0
  go_enter Tryz.func25,Tryz.ntmps25
  go_wp2_with (first
   | (go_at_call 28;((with_reducible refine (HCK.out _ zx).mono ?_);rintro e w3 ⟨rfl,hq3⟩;obtain ⟨x0,x1,x2,x3,x4,x5,x6,xz⟩:=(HBX.out.ext (zx:Ext _ w3)).facts;obtain ⟨y0,y1,yz⟩:=(HRB.out.ext (zx:Ext _ w3)).facts;have z0:=(HRB.out.ext (zx:Ext _ w3)).free 0;have z1:=(HRB.out.ext (zx:Ext _ w3)).free 1)))
  obtain ⟨n1,n2,k0,k1⟩:=zgf (w:=w) (w5:=w3) (s:=0) (c:=0) (HRB.out.ext zx) (HW0.out.trans zx) (Rws.none_ _ _ none)
  rw [HV.out.1,HV.out.2.1,HV.out.2.2]
  exact bodyPost_ret (v := .tuple #[.agg #[.int .i64 0,.slice none 0 0],.int .i64 R]) (by simp [results,Tryz.f25,go_sem,k0,k1]) rfl ⟨none,0,0,rfl,n1,n2⟩
 subst h0
 have HP:=Za (zlR HR.out)
 go_enter Tryz.func25,Tryz.ntmps25
 go_wp2_with (first
  | (go_at_call 28;((with_reducible refine (HCK.out _ zx).mono ?_);rintro e w3 ⟨rfl,hq3⟩;obtain ⟨x0,x1,x2,x3,x4,x5,x6,xz⟩:=(HBX.out.ext (zx:Ext _ w3)).facts;obtain ⟨y0,y1,yz⟩:=(HRB.out.ext (zx:Ext _ w3)).facts;have z0:=(HRB.out.ext (zx:Ext _ w3)).free 0;have z1:=(HRB.out.ext (zx:Ext _ w3)).free 1)))
 go_loopw [18] (fun v wr=>∃k:Nat,v = .int .i64 (k:Int)∧k≤nc∧Hid (secI se name=idxN (seN se) name (nc-k) k)∧Hid (Ext ((w.alloc (.cells #[.string ⟨nm.toArray⟩,.int .i64 g1,.int .i64 g2,.int .i64 g3,.int .i64 g4,.slice As ns cs,.slice Ac nc cc] 42)).alloc (.cells #[.int .i64 0,.slice none 0 0] 24)) wr)) (fun v _=>nc-(intOf v).toNat)
 case atStart=>exact ⟨0,rfl,Zu _,Za (by rw [secI,HLC.out];rfl),Za zx⟩
 case round =>
  clear x0 x1 x2 x3 x4 x5 x6 xz y0 y1 yz z0 z1
  obtain ⟨k,rfl,hk,HI,HE⟩:=hrel
  obtain ⟨wa,rfl⟩:∃wa:World,wa=wr:=⟨_,rfl⟩
  obtain ⟨x0,x1,x2,x3,x4,x5,x6,xz⟩:=(HBX.out.ext (HE.out:Ext _ wa)).facts;obtain ⟨y0,y1,yz⟩:=(HRB.out.ext (HE.out:Ext _ wa)).facts;have z0:=(HRB.out.ext (HE.out:Ext _ wa)).free 0;have z1:=(HRB.out.ext (HE.out:Ext _ wa)).free 1
  have q0:(0:Int)≤(k:Int):=by omega
  by_cases hlt:k<nc
  ·have q1:(k:Int)<(nc:Int):=by omega
   obtain ⟨b',off,A',n',c',rfl,hb',c0,c1,c2,hr,hcap⟩:=(HCV.out.ext (HW0.out.trans HE.out)).at_ hlt
   have HRW:=Za hr
   have hI:=HI.out
   obtain ⟨m,hm⟩:∃m,nc-k=m+1:=⟨nc-k-1,by omega⟩
   rw [hm,idxN] at hI
   have hm2:nc-(k+1)=m:=by omega
   obtain ⟨Y,hY⟩:∃Y,seN se k=Y:=⟨_,rfl⟩
   rw [hY] at c0
   by_cases hxy:Y=name
   ·rw [if_pos (hY.trans hxy)] at hI
    have hV:=zoA (name:=name) HR.out hI
    have hch:=HP.out.2.2 k (by rw [HLC.out];exact hlt)
    obtain ⟨S,hS⟩:∃S,(se.getD k sec0).s=S:=⟨_,rfl⟩
    obtain ⟨L,hL⟩:∃L,(se.getD k sec0).rows=L:=⟨_,rfl⟩
    rw [hS,hL] at hV hch
    rw [hS] at c1
    rw [hL] at HRW
    have HV:=Za hV
    have hll:=HRW.out.len
    have hn':=HRW.out.1
    unfold maxLen at hn'
    obtain ⟨e1,e2,e3⟩:=zlQ (k:=0) (q:=n') hch (Zu _) (by omega)
    have e4:(cntC S L).getD 0 0=S:=rfl
    have e5:(L.drop 0).take (n'-0)=L:=by rw [List.drop_zero,Nat.sub_zero,Zz (by omega)]
    have HPA:=Za (fun (w':World) (h:Ext wa w')=>(show Calls Tryz.prog 55 #[.agg #[.int .i64 S,.slice A' n' c'],.int .i64 0,.int .i64 (n':Int)] w' (ChR S L 0 w') from by
     have h9:=zij S 0 (n':Int) A' n' c' L w' (HRW.out.ext h) hcap
     have h8:=h9
     rw [show (0:Int)=((0:Nat):Int) from rfl] at h8
     rw [e1,e2,e3,e4,e5] at h8
     exact h8))
    have hb1:(Y==name)=true:=by simpa using hxy
    have p8:(0:Int)≤(n':Int):=by omega
    clear hI hm hm2 hY hxy hS hL hV hch hll e1 e2 e3 e4 e5 hr
    go_wp2_with (first
     | (go_at_call 55;((with_reducible refine (HPA.out _ zx).mono ?_);rintro e w5 ⟨A5,n5,c5,rfl,hq5,hr5⟩;obtain ⟨x0,x1,x2,x3,x4,x5,x6,xz⟩:=(HBX.out.ext (HE.out.trans (zx):Ext _ w5)).facts;obtain ⟨y0,y1,yz⟩:=(HRB.out.ext (HE.out.trans (zx):Ext _ w5)).facts;have z0:=(HRB.out.ext (HE.out.trans (zx):Ext _ w5)).free 0;have z1:=(HRB.out.ext (HE.out.trans (zx):Ext _ w5)).free 1;have HE5:=Za (HE.out.trans (zx:Ext _ w5));have HR5:=Za (hr5.mono (K':=fun b=>w.heap.size+2≤b) (fun b _ hk=>(by have h8:=Zr HE.out;rw [HZW.out] at h8;have h9:wa.heap.size≤b:=ZB (by simp) hk;omega)));clear hr5)))
    obtain ⟨n1,n2,k0,k1⟩:=zgf (w:=w) (w5:=w5) (s:=S) (c:=c5) (HRB.out.ext HE5.out) (HW0.out.trans HE5.out) HR5.out
    rw [HV.out.1,HV.out.2.1,HV.out.2.2]
    exact bodyPost_ret (v := .tuple #[.agg #[.int .i64 S,.slice A5 n5 c5],.int .i64 0]) (by simp [results,Tryz.f25,go_sem,k0,k1]) rfl ⟨A5,n5,c5,rfl,n1,n2⟩
   ·rw [if_neg (fun h9=>hxy (hY.symm.trans h9)),←hm2] at hI
    have HN:=Za hI
    have hb1:(Y==name)=false:=by simpa using hxy
    clear hI hm hm2 hY hxy hr
    go_wp2_with fail
    go_roundw
    case rel=>exact ⟨k+1,by go_num,by omega,HN,Za (HE.out.trans zx)⟩
    case measure=>simp [intOf] <;> omega
  ·obtain rfl:nc=k:=by omega
   have HV:=Za (zoz (name:=name) HR.out (by rw [HI.out,Nat.sub_self];rfl))
   go_wp2_with fail
   obtain ⟨n1,n2,k0,k1⟩:=zgf (w:=w) (w5:=wa) (s:=0) (c:=0) (HRB.out.ext HE.out) (HW0.out.trans HE.out) (Rws.none_ _ _ none)
   rw [HV.out.1,HV.out.2.1,HV.out.2.2]
   exact bodyPost_ret (v := .tuple #[.agg #[.int .i64 0,.slice none 0 0],.int .i64 6]) (by simp [results,Tryz.f25,go_sem,k0,k1]) rfl ⟨none,0,0,rfl,n1,n2⟩
end Go.Proofs.YtkneghkbgingdaaGreatDoor
/- The chapter's examples of patterns. -/
namespace Go.Proofs.YtkneghkbgingdaaGreatDoor
set_option maxRecDepth 100000
open Go.RowKit Go.ChangeShapes Go.WideShapes Go.Joins
theorem zoG:ptxE scP.nm (gerr 22 1000 30 1000) 22 1000 30 1000 scSt scSe=0∧ptxV scP.nm (gerr 22 1000 30 1000) 22 1000 30 1000 scSt scSe=scB:=zcW zow zoH (by decide)
theorem zox:secE scP.nm (gerr 22 1000 30 1000) scSt scSe [98,111,100,121]=0∧secS scP.nm (gerr 22 1000 30 1000) scSt scSe [98,111,100,121]=4∧secL scP.nm (gerr 22 1000 30 1000) scSt scSe [98,111,100,121]=scR:=by decide +kernel
theorem zm1 (i:Nat) (_:i<1):(stN scSt i).length≤100:=by
 rcases i with _ | i
 ·decide
 ·omega
theorem zm0 (i:Nat) (_:i<1):(seN scSe i).length≤100:=by
 rcases i with _ | i
 ·decide
 ·omega
theorem zmm (A:Option Addr) (w:World) (hr:Rws w (fun _=>True) A 6 gvR) (hg:Glob w):Calls Tryz.prog 10 #[.agg #[.int .i64 4,.slice A 6 6]] w fun e w'=>e = .returned (.tuple #[.string ⟨#[102,114,111,110,116,32,107,32,121,111,32,107,42,50,32,112,10,98,97,99,107,32,112,42,53,10,102,114,111,110,116,32,107,42,53,10,97,103,97,105,110,32,50,32,49,10,98,97,99,107,32,112,42,53,10]⟩,.int .i64 0])∧Ext w w':=by
 have h:=zaY 4 A 6 6 gvR w hr hg
 unfold PRowsR at h
 rw [zfO.1,zfO.2] at h
 exact h
theorem zml (w:World) (hg:Glob w):Calls Tryz.prog 12 #[.int .i64 4,.string ⟨#[102,114,111,110,116,32,107,32,121,111,32,107,42,50,32,112,10,98,97,99,107,32,112,42,53,10,102,114,111,110,116,32,107,42,53,10,97,103,97,105,110,32,50,32,49,10,98,97,99,107,32,112,42,53,10]⟩] w fun e w'=>∃(A:Option Addr) (c:Nat),e = .returned (.tuple #[.agg #[.int .i64 4,.slice A 6 c],.int .i64 0])∧Ext w w'∧Rws w' (fun _=>True) A 6 gvR:=by
 refine (zbk 4 someB (by decide) w hg).mono ?_
 rintro e w' ⟨A,n,c,rfl,h1,h2⟩
 obtain ⟨e1,e2,e3⟩:=ze7 zm4
 rw [e2] at h2
 obtain rfl:n=6:=h2.len.symm
 rw [e1,e3]
 exact ⟨A,c,rfl,h1,h2.any⟩
theorem zkq (w:World) (hg:Glob w):Calls Tryz.prog 18 #[.string ⟨#[112,97,116,116,101,114,110,32,115,99,97,114,102,10,103,97,117,103,101,32,50,50,32,49,48,48,48,32,51,48,32,49,48,48,48,10,115,116,117,102,102,32,119,111,111,108,32,50,48,48,10,115,101,99,116,105,111,110,32,98,111,100,121,32,52,10,102,114,111,110,116,32,107,42,52,10,98,97,99,107,32,112,42,52,10,97,103,97,105,110,32,50,32,57,10]⟩] w fun e w'=>∃(As Ac:Option Addr) (cs cc:Nat),e = .returned (.tuple #[.agg #[.string ⟨#[115,99,97,114,102]⟩,.int .i64 22,.int .i64 1000,.int .i64 30,.int .i64 1000,.slice As 1 cs,.slice Ac 1 cc],.int .i64 0])∧Ext w w'∧Vec shStf w' As 1 scSt∧Secs w' Ac 1 scSe:=by
 refine (za4 scB (by decide) w hg).mono ?_
 rintro e w' ⟨h1,⟨h2, -⟩ | ⟨p,As,Ac,cs,cc,h2,rfl,h3,h4, -⟩⟩
 ·rw [zoF] at h2;cases h2
 ·rw [zoF] at h2
  cases h2
  exact ⟨As,Ac,cs,cc,rfl,h1,h3,h4⟩
section
variable (As Ac:Option Addr) (cs cc:Nat) (w:World) (hs:Vec shStf w As 1 scSt) (hc:Secs w Ac 1 scSe)
include hs hc
theorem zmn (hg:Glob w):Calls Tryz.prog 16 #[.agg #[.string ⟨#[115,99,97,114,102]⟩,.int .i64 22,.int .i64 1000,.int .i64 30,.int .i64 1000,.slice As 1 cs,.slice Ac 1 cc]] w fun e w'=>e = .returned (.tuple #[.string ⟨#[112,97,116,116,101,114,110,32,115,99,97,114,102,10,103,97,117,103,101,32,50,50,32,49,48,48,48,32,51,48,32,49,48,48,48,10,115,116,117,102,102,32,119,111,111,108,32,50,48,48,10,115,101,99,116,105,111,110,32,98,111,100,121,32,52,10,102,114,111,110,116,32,107,42,52,10,98,97,99,107,32,112,42,52,10,97,103,97,105,110,32,50,32,57,10]⟩,.int .i64 0])∧Ext w w':=by
 have h:=zbl scP.nm 22 1000 30 1000 As 1 cs scSt Ac 1 cc scSe w hs hc (by decide) (fun i hi=>ZB (zm1 i hi) (by decide)) (fun i hi=>ZB (zm0 i hi) (by decide)) (by decide) (by decide) hg (zbe _ _ _ _)
 unfold PtxR at h
 rw [zoG.1,zoG.2] at h
 exact h
theorem znu:Calls Tryz.prog 25 #[.agg #[.string ⟨#[115,99,97,114,102]⟩,.int .i64 22,.int .i64 1000,.int .i64 30,.int .i64 1000,.slice As 1 cs,.slice Ac 1 cc],.string ⟨#[98,111,100,121]⟩] w fun e w'=>∃(A:Option Addr) (c:Nat),e = .returned (.tuple #[.agg #[.int .i64 4,.slice A 20 c],.int .i64 0])∧Ext w w':=by
 refine (zcV scP.nm 22 1000 30 1000 As 1 cs scSt Ac 1 cc scSe w [98,111,100,121] hs hc (by decide) (fun i hi=>ZB (zm1 i hi) (by decide)) (fun i hi=>ZB (zm0 i hi) (by decide)) (by decide) (by decide)).mono ?_
 rintro e w' ⟨A,n,c,rfl,h1,h2⟩
 rw [zox.2.2] at h2
 obtain rfl:n=20:=h2.len.symm
 rw [zox.1,zox.2.1]
 exact ⟨A,c,rfl,h1⟩
theorem zkp:Calls Tryz.prog 24 #[.agg #[.string ⟨#[115,99,97,114,102]⟩,.int .i64 22,.int .i64 1000,.int .i64 30,.int .i64 1000,.slice As 1 cs,.slice Ac 1 cc]] w fun e w'=>e = .returned (.tuple #[.int .i64 200,.int .i64 0])∧Ext w w':=by
 have h:=zbT scP.nm 22 1000 30 1000 As 1 cs scSt Ac 1 cc scSe w hs hc (by decide) (fun i hi=>ZB (zm1 i hi) (by decide)) (fun i hi=>ZB (zm0 i hi) (by decide)) (by decide) (by decide)
 unfold GrmR at h
 rw [show patE scP.nm (gerr 22 1000 30 1000) scSt scSe=0 from zow,if_pos rfl,show gramS scSt scSt.length=200 from rfl] at h
 exact h
end
theorem zaS (w:World) (hg:Glob w):Calls Tryz.prog 29 #[] w fun e w'=>e = .returned (.bool true)∧Ext w w':=by
 have HG:=Za hg
 have HB:=Za (Zd w)
 clear hg
 go_enter Tryz.func29,Tryz.ntmps29
 go_wp2_with (first
  | (go_at_call 27;(first
   | ((have h0:=T5.out);(with_reducible refine (zcz _).mono ?_);rintro e w7 ⟨A7,rfl,hq,hr⟩;have hx:Ext w6 w7:=(Zb zx hq);have HX7:=Za hx;replace HB:=Za (HB.out.trans hx);have HR7:=Za hr.any;clear hq hr hx)
   | ((fail_if_success (have h0:=T5.out));(with_reducible refine (zcz _).mono ?_);rintro e w1 ⟨A1,rfl,hq,hr⟩;replace HB:=Za (HB.out.trans hq);have HR1:=Za hr.any;clear hq hr)))
  | (go_at_call 10;((with_reducible refine (zmm _ _ (HR1.out.ext zx) (HG.out.ext (HB.out.trans zx))).mono ?_);rintro e w2 ⟨rfl,hq⟩;replace HB:=Za (HB.out.trans (Zb zx hq));clear hq))
  | (go_at_call 12;((with_reducible refine (zml _ (HG.out.ext (HB.out.trans zx))).mono ?_);rintro e w3 ⟨A3,c3,rfl,hq,hr⟩;replace HB:=Za (HB.out.trans (Zb zx hq));have HR3:=Za hr;have HC3:=Za (BoxC.start w3 4 A3 6 c3);clear hq hr))
  | (go_at_call 18;((with_reducible refine (zkq _ (HG.out.ext (HB.out.trans zx))).mono ?_);rintro e w4 ⟨As,Ac,cs,cc,rfl,hq,hs,hc⟩;replace HB:=Za (HB.out.trans (Zb zx hq));have HX4:=Za (Zb zx hq:Ext w3 w4);have HQ4:=Za hq;have HS4:=Za hs;have HC4:=Za hc;have HP4:=Za (BoxP.start w4 [115,99,97,114,102] 22 1000 30 1000 As 1 cs Ac 1 cc);clear hq hs hc))
  | (go_at_call 16;((with_reducible refine (zmn As Ac cs cc _ (HS4.out.ext zx) (HC4.out.ext zx) (HG.out.ext (HB.out.trans zx))).mono ?_);rintro e w5 ⟨rfl,hq⟩;have HX5:=Za (Zb zx hq:Ext w4 w5);have HQ5:=Za hq;obtain ⟨x0,x1,x2,x3,x4,x5,x6,xz⟩:=(HP4.out.ext hq).facts;replace HB:=Za (HB.out.trans HX5.out);clear hq))
  | (go_at_call 25;((with_reducible refine (znu As Ac cs cc _ (HS4.out.ext (HX5.out.trans zx)) (HC4.out.ext (HX5.out.trans zx))).mono ?_);rintro e w6 ⟨A6,c6,rfl,hq⟩;have T5:=Za trivial;obtain ⟨y0,y1,y2,y3,y4,y5,y6,yz⟩:=((HP4.out.ext HQ5.out).ext (Zb zx hq)).facts;have HX6:=Za (Zb zx hq:Ext w5 w6);replace HB:=Za (HB.out.trans HX6.out);have HC6:=Za (BoxC.start w6 4 A6 20 c6);clear hq))
  | (go_at_call 24;((with_reducible refine (zkp As Ac cs cc _ (HS4.out.ext (HX5.out.trans (HX6.out.trans zx))) (HC4.out.ext (HX5.out.trans (HX6.out.trans zx)))).mono ?_);rintro e w9 ⟨rfl,hq⟩;have HX9:=Za (Zb zx hq:Ext w6 w9);obtain ⟨k0,k1,kz⟩:=(HC3.out.ext (HQ4.out.trans (HX5.out.trans (HX6.out.trans HX9.out)))).facts;obtain ⟨m0,m1,mz⟩:=(HC6.out.ext hq).facts;have HC63:=Za (HC3.out.ext (HQ4.out.trans (HX5.out.trans (HX6.out.trans HX9.out))));have HC69:=Za (HC6.out.ext hq);have HR9:=Za (HR3.out.ext (HX4.out.trans (HX5.out.trans (HX6.out.trans HX9.out))));replace HB:=Za (HB.out.trans HX9.out);clear hq)))
 have HX:=Za (Zd w9)
 go_region_held3 (fun wx=>wx.cell? ⟨w3.heap.size,0,none⟩=some (.int .i64 4)∧wx.cell? ⟨w3.heap.size,1,none⟩=some (.slice A3 6 c3)∧wx.cell? ⟨w6.heap.size,0,none⟩=some (.int .i64 4)∧wx.cell? ⟨w6.heap.size,1,none⟩=some (.slice A6 20 c6)) (go_keep) (first
  | (go_at_call 27;((with_reducible refine (zcz _).mono ?_);rintro e w7 ⟨A7,rfl,hq,hr⟩;replace HX:=Za (HX.out.trans (Zb zx hq:Ext w9 w7));have HR7:=Za hr.any;clear hq hr;obtain ⟨k0,k1,kz⟩:=(HC63.out.ext HX.out).facts;obtain ⟨m0,m1,mz⟩:=(HC69.out.ext HX.out).facts))
  | (go_at_call 14;((with_reducible refine (zat 4 4 A3 A7 6 6 c3 6 gvR gvR _ (HR9.out.ext (HX.out.trans zx)) (HR7.out.ext zx)).mono ?_);rintro e w8 ⟨rfl,hq⟩;rw [zax];replace HX:=Za (HX.out.trans (Zb zx hq:Ext w7 w8));clear hq;obtain ⟨k0,k1,kz⟩:=(HC63.out.ext HX.out).facts;obtain ⟨m0,m1,mz⟩:=(HC69.out.ext HX.out).facts)))
 all_goals
  go_wp2_with fail
  go_ret
  exact ⟨by first | rfl | simp,HB.out.trans (by have h9:=HX.out;repeat (first|exact zr _|assumption|refine za ?_ _|refine zd ?_|refine zn ?_ _|refine zt ?_ (by assumption)))⟩
end Go.Proofs.YtkneghkbgingdaaGreatDoor
/- What the rows' listed variables give. -/
namespace Go.Proofs.YtkneghkbgingdaaGreatDoor
set_option maxRecDepth 100000
open Go.ChangeShapes Go.WideShapes Go.ChangeAt Go.RowKit
theorem zg8 : "*" ++ "errors.errorString" = "*errors.errorString" := by decide
theorem zjp (u:TypeId) (h:Tryz.prog.typeName? 3 u=some "*errors.errorString"):u=260 :=
 typeName_ptr_named (nm := "errors.errorString") (by rw [zg8];kernel_rfl) (by kernel_rfl) (by decide) u (by rw [zg8];exact h)
theorem zmI:Rows.laid_internal_strconv_uint64pow10 (H:=Unit)=Lib.tabData .u64 Lib.pow10Tab:=by rfl
theorem zfM {W:World} (hL:laidMet Tryz.prog [("math/bits.deBruijn32tab",Rows.laid_math_bits_deBruijn32tab),("math/bits.deBruijn64tab",Rows.laid_math_bits_deBruijn64tab),("internal/strconv.uint64pow10",Rows.laid_internal_strconv_uint64pow10),("unicode/utf8.acceptRanges",Rows.laid_unicode_utf8_acceptRanges),("strconv.ErrRange",Rows.laid_strconv_ErrRange),("strconv.ErrSyntax",Rows.laid_strconv_ErrSyntax),("unicode/utf8.first",Rows.laid_unicode_utf8_first)] W) (hsh:W.ShapedOpen Tryz.prog):Glob W:=by
 have h1:=laidMet.tail (laidMet.tail hL)
 have h2:=laidMet.tail (laidMet.tail h1)
 have h3:=laidMet.tail h2
 rw [zmI] at h1
 refine ⟨Lib.tabIs_of_head (g:=1) (t:=221) (e:=179) (n:=20) (by kernel_rfl) (by kernel_rfl) (by kernel_rfl) (by kernel_rfl) (by kernel_rfl) (by kernel_rfl) h1,?_,?_,Tryz.laysM146.s1_3 W hsh⟩
 ·obtain ⟨a,s,h, -⟩:=laid_sentinel (g:=2) (ti:=83) (tp:=260) (te:=262) (ts:=9) h3 (by kernel_rfl) (by kernel_rfl) Tryz.underlying83 zjp (by kernel_rfl) Tryz.underlying262 rfl rfl (by kernel_rfl) (by kernel_rfl) (by kernel_rfl)
  exact ⟨_,_,h⟩
 ·obtain ⟨a,s,h, -⟩:=laid_sentinel (g:=3) (ti:=83) (tp:=260) (te:=262) (ts:=9) h2 (by kernel_rfl) (by kernel_rfl) Tryz.underlying83 zjp (by kernel_rfl) Tryz.underlying262 rfl rfl (by kernel_rfl) (by kernel_rfl) (by kernel_rfl)
  exact ⟨_,_,h⟩
end Go.Proofs.YtkneghkbgingdaaGreatDoor
