/- The walk of write: the text of terms goes into a builder. -/
import Derived.Test.YtkneghkbgingdaaGreatDoorK12
namespace Go.Proofs.YtkneghkbgingdaaGreatDoor
set_option maxHeartbeats 16000000
set_option maxRecDepth 100000
open Go.RowKit Go.ChangeShapes Go.WideShapes Go.Joins
def sepT (k:Nat) (r:Tms):List UInt8:=match r with
 | .nil=>[]
 | r=>if k=0 then wT r else 32::wT r
theorem zem (t:Tms):sepT 0 t=wT t:=by cases t <;> rfl
theorem zjC (k:Nat):sepT k .nil=[]:=rfl
theorem zfi (N:Int) (c:St) (g r:Tms):sepT 0 (.cons N c g r)=headW c g++(timesW N++sepT 1 r):=by
 rw [zem]
 by_cases hr:r = .nil
 ·subst hr;rw [zft,zjC,ZH]
 ·rw [zdq _ _ _ _ hr,ZJ]
  cases r with
  | nil=>exact absurd rfl hr
  | cons=>rfl
theorem zlm {k:Nat} (hk:0<k) (N:Int) (c:St) (g r:Tms):sepT k (.cons N c g r)=32::(headW c g++(timesW N++sepT 1 r)):=by
 have h:=zfi N c g r
 rw [zem] at h
 rw [←h]
 show (if k=0 then wT (.cons N c g r) else 32::wT (.cons N c g r))=_
 rw [if_neg (by omega)]
theorem zm2 {k:Nat} (hk:0<k) (r:Tms):sepT k r=sepT 1 r:=by
 cases r with
 | nil=>rfl
 | cons N c g r=>show (if k=0 then wT (.cons N c g r) else 32::wT (.cons N c g r))=32::wT (.cons N c g r);rw [if_neg (by omega)]
theorem zaV {w:World} {g:Nat} {cs:Array Value} {T:TypeId} {fz:Nat×Nat} (h:w.heap[g]?=some (.cells cs T fz)):∀j,w.cell? ⟨g,j,none⟩=cs[j]?:=fun j=>cell_of_row w g j cs T fz h
theorem zmd {w:World} (o:Obj):(w.alloc o).heap[w.heap.size]?=some o:=heap_alloc_new w _
theorem znj {w:World} {g:Nat} {o:Obj} (h:g=w.heap.size):(w.alloc o).heap[g]?=some o:=by subst h;exact heap_alloc_new w _
theorem WSt.box {W0 w0 w:World} {b g:Nat} {l:List UInt8} {cs:Array Value} {T:TypeId} {fz:Nat×Nat} (h:WSt W0 w0 b l w) (hb:w0.heap[g]?=some (.cells cs T fz)) (hg:g≠b) (hT:T≠5):w.heap[g]?=some (.cells cs T fz) :=
 h.kp g _ hb (by simpa using hg) (fun c fz' e=>by cases e;exact hT rfl)
theorem zni {T e:TypeId} {B b:Nat} {bs:List Value} {w:World} (h:Lib.IsBuilderF T e B b bs w):b<w.heap.size:=by
 have at_:∀p,Lib.BuilderAtF T e B b p bs w→b<w.heap.size:=fun p ⟨_,v,hbk,_⟩=>(Zn.1 hbk).1
 exact h.elim (at_ _) (at_ _)
theorem zlz {W0 w0 w:World} {b:Nat} {l:List UInt8} (h:WSt W0 w0 b l w) (hl:l.length≤1000000000) :
  Calls Tryz.prog 135 #[.pointer (some ⟨b,0,none⟩),.int .u8 32] w fun e w'=>e = .returned .nilIface∧WSt W0 w0 b (l++[32]) w':=zgm 32 32 (by rfl) h hl
theorem zlA {W0 w0 w:World} {b:Nat} {l:List UInt8} (h:WSt W0 w0 b l w) (hl:l.length≤1000000000) :
  Calls Tryz.prog 135 #[.pointer (some ⟨b,0,none⟩),.int .u8 40] w fun e w'=>e = .returned .nilIface∧WSt W0 w0 b (l++[40]) w':=zgm 40 40 (by rfl) h hl
theorem zlB {W0 w0 w:World} {b:Nat} {l:List UInt8} (h:WSt W0 w0 b l w) (hl:l.length≤1000000000) :
  Calls Tryz.prog 135 #[.pointer (some ⟨b,0,none⟩),.int .u8 41] w fun e w'=>e = .returned .nilIface∧WSt W0 w0 b (l++[41]) w':=zgm 41 41 (by rfl) h hl
theorem zh0 {w:World} {g:Nat} {k:Int} {p:Bool} {a b:Int} {T:TypeId} (h:w.heap[g]?=some (.cells #[.int .u8 k,.bool p,.int .i64 a,.int .i64 b] T (0,0))):Vec shSt w (some ⟨g,0,none⟩) 1 [⟨k,p,a,b⟩]:=by
 refine ⟨rfl,fun _=>⟨g,0,rfl,(Zn.1 h).1,fun j x hx i u hu=>?_⟩⟩
 have hj:j=0:=by
  have:=(ZO.1 hx).1
  simpa using this
 subst hj
 simp at hx
 subst hx
 rw [zaV h]
 simpa [shSt,stc] using hu
theorem zjW:∀(M:Nat),M≤5000→∀(t:Tms),t.size≤M→fineT t=true→∀(W0 w0:World) (b:Nat) (A:Option Addr) (n cap:Nat) (l:List UInt8) (w:World),Glob W0→Tv W0 A n t→WSt W0 w0 b l w→l.length+(wT t).length≤10000000 →
  Calls Tryz.prog 102 #[.pointer (some ⟨b,0,none⟩),.slice A n cap] w fun e w'=>e = .returned (.tuple #[])∧WSt W0 w0 b (l++wT t) w':=by
 intro M
 induction M using Nat.strongRecOn with
 | ind M ih =>
  intro hM t ht hf W0 w0 b A n cap l w hg hv hs hlen
  have HI:=Za ih
  have HV:=Za hv
  have HG:=Za hg
  have HS0:=Za hs
  have HF:=Za hf
  have HLN:=Za hlen
  have hnm:n≤5000:=by have h1:=hv.1;have h2:=zba t;omega
  clear ih hv hg hs hf hlen
  go_enter Tryz.func102,Tryz.ntmps102
  go_wp2_with fail
  go_loopw [10] (fun i wr=>∃(k:Nat) (cur:List UInt8) (rest:Tms),i = .int .i64 k∧rest.cnt+k=n∧rest.size≤M ∧
   Hid (WSt W0 w0 b cur wr∧cur++sepT k rest=l++wT t∧fineT rest=true∧(0<rest.cnt→∃b1 off,A=some ⟨b1,off,none⟩∧b1<W0.heap.size∧TAt W0 rest b1 (off+k*6)))) (fun i _=>n-(intOf i).toNat)
  case atStart =>
   refine ⟨0,l,t,rfl,by have:=HV.out.1;omega,ht,Za ⟨HS0.out.ext zx,by rw [zem],HF.out,fun h=>?_⟩⟩
   obtain ⟨h1,h2,h3⟩:=HV.out
   obtain ⟨b,off,e,hb,hc⟩:=h3 (by omega)
   exact ⟨b,off,e,hb,by simpa using hc⟩
  case round =>
   obtain ⟨k,cur,rest,rfl,hcnt,hrs,HH⟩:=hrel
   by_cases hlt:0<rest.cnt
   ·obtain ⟨N,c,g,r,rfl⟩:=zb8 hlt
    obtain ⟨b1,off,rfl,hb1,hc⟩:=HH.out.2.2.2 hlt
    obtain ⟨A',n',cap',d0,d1,d2,d3,d4,d5,hkk,hg,hr⟩:=hc.head
    have hws:=HH.out.1
    have hxr:=hws.ex
    obtain ⟨⟨hN0,hN1⟩,hfg,hfr⟩:=zca HH.out.2.2.1
    obtain ⟨-, -, -,hok, -⟩:=zcy HH.out.2.2.1
    have HFR:=Za hfr
    simp only [Tms.cnt,Tms.size] at hcnt hrs
    have hkn:k<n:=by omega
    have hz:b1<wr.heap.size:=Zt hb1 (Zr hxr)
    have hbl:=zni hws.bl
    have hcall:=fun (w1:World) (cu:List UInt8) (wx:World) (h:WSt W0 w1 b cu wx) (hl:cu.length+(wT g).length≤10000000)=>HI.out (M-1) (by omega) (by omega) g (by omega) hfg W0 w1 b A' n' cap' cu wx HG.out hg h hl
    have HC:=Za hcall
    have hgn:=hg.1
    have q0:(0:Int)≤(k:Int):=by omega
    have q1:(k:Int)<(n:Int):=by omega
    have HR:=Za hr
    have HKK:=Za hkk
    have HEQ:=Za HH.out.2.1
    have HTOT:=Za (show cur.length+(sepT k (.cons N c g r)).length≤10000000 by
     have h1:=congrArg List.length HH.out.2.1
     rw [Zh,Zh] at h1
     have:=HLN.out
     omega)
    have HOK:=Za hok
    have HIT:=Za (fun (w':World) (h:Ext W0 w')=>zaf N (by omega) (by omega) w' (HG.out.ext h))
    obtain ⟨ck,cp,ca,cb⟩:=c
    simp only at d1 d2 d3 d4
    obtain ⟨wq,rfl⟩:∃wq:World,wq=wr:=⟨_,rfl⟩
    have fwd:∀(o:Nat) (u:Value),W0.cell? ⟨b1,o,none⟩=some u→wq.cell? ⟨b1,o,none⟩=some u:=fun o u h=>(Zm (p:=⟨b1,o,none⟩) hxr hb1).trans h
    have c0:=fwd _ _ d0
    have c1:=fwd _ _ d1
    have c2:=fwd _ _ d2
    have c3:=fwd _ _ d3
    have c4:=fwd _ _ d4
    have c5:=fwd _ _ d5
    have HB0:=Za (zmd (w:=wq) (.cells #[.int .i64 N,.int .u8 ck,.bool cp,.int .i64 ca,.int .i64 cb,.slice A' n' cap'] 134))
    have HW0:=Za hws
    have HS:=Za (hws.ext ((Zd wq).alloc (.cells #[.int .i64 N,.int .u8 ck,.bool cp,.int .i64 ca,.int .i64 cb,.slice A' n' cap'] 134))).here
    have hgb:wq.heap.size≠b:=by omega
    have HSEP:(¬((0:Int)<(k:Int))∧Hid (sepT k (.cons N ⟨ck,cp,ca,cb⟩ g r)=[]++(headW ⟨ck,cp,ca,cb⟩ g++(timesW N++sepT 1 r))))∨(((0:Int)<(k:Int))∧Hid (sepT k (.cons N ⟨ck,cp,ca,cb⟩ g r)=[32]++(headW ⟨ck,cp,ca,cb⟩ g++(timesW N++sepT 1 r)))):=by
     rcases Nat.eq_zero_or_pos k with h | h
     ·left;subst h;exact ⟨by omega,Za (zfi _ _ _ _)⟩
     ·right;exact ⟨by omega,Za (zlm h _ _ _ _)⟩
    obtain ⟨T,hT⟩:∃T,textL [⟨ck,cp,ca,cb⟩]=T:=⟨_,rfl⟩
    have HHD:(((0:Int)<(n':Int))∧Hid (headW ⟨ck,cp,ca,cb⟩ g=[40]++(wT g++[41])))∨(¬((0:Int)<(n':Int))∧Hid (headW ⟨ck,cp,ca,cb⟩ g=T)∧Hid (okSt ⟨ck,cp,ca,cb⟩=true)):=by
     rcases Nat.eq_zero_or_pos n' with h | h
     ·right;obtain rfl:=zbd (t:=g) (by omega);exact ⟨by omega,Za hT,Za (HOK.out rfl)⟩
     ·left;exact ⟨by omega,Za (zce (by rintro rfl;simp [Tms.cnt] at hgn;omega))⟩
    have HTX:=Za (fun (ho:okSt ⟨ck,cp,ca,cb⟩=true) (w':World) (hb:Ext W0 w') (g0:Nat) (hx:w'.heap[g0]?=some (.cells #[.int .u8 ck,.bool cp,.int .i64 ca,.int .i64 cb] 132 (0,0)))=>(show Calls Tryz.prog 136 #[.slice (some ⟨g0,0,none⟩) 1 1] w' fun e w''=>e = .returned (.tuple #[.string ⟨T.toArray⟩,.int .i64 0])∧Ext w' w'' from by
     have h:=zjJ 1 1 (some ⟨g0,0,none⟩) [⟨ck,cp,ca,cb⟩] w' (zh0 hx) (by unfold maxLen;omega) (fun j hj=>by obtain rfl:j=0:=(by simpa using hj);exact HKK.out) (HG.out.ext hb)
     rw [textG,if_pos (zcw ho).1,(zcw ho).1,hT] at h
     exact h))
    have hdl:=zae N.toNat
    obtain ⟨D,hD⟩:∃D,decD N.toNat=D:=⟨_,rfl⟩
    rw [hD] at hdl HIT
    have hcat:(⟨#[42]⟩++⟨D.toArray⟩:ByteArray)=⟨(42::D).toArray⟩:=zag [42] D
    have HTM:(1<N∧Hid (timesW N=42::D))∨(¬1<N∧Hid (timesW N=[])):=by
     by_cases h:1<N
     ·left;exact ⟨h,Za (by rw [timesW,if_pos h,hD])⟩
     ·right;exact ⟨h,Za (by rw [timesW,if_neg h])⟩
    clear hcall hc hxr hfr hfg hkk fwd hg hr d0 d1 d2 d3 d4 d5 hws hok HF HOK HS0 hgn hT hD
    rcases HSEP with ⟨hk0,HSEP⟩ | ⟨hk0,HSEP⟩ <;> rcases HHD with ⟨hn',HHD⟩ | ⟨hn',HHD,HOK⟩ <;> rcases HTM with ⟨hN2,HTM⟩ | ⟨hN2,HTM⟩
    all_goals
     have HLL:=Za (show ∀x y z u:List UInt8,sepT k (.cons N ⟨ck,cp,ca,cb⟩ g r)=x++(y++(z++u))→cur.length+x.length+y.length+z.length≤10000000 from fun x y z u h=>by have h1:=HTOT.out;rw [h] at h1;simp only [Zh] at h1;omega)
    all_goals
     go_wp2_with (first
      | (go_at_call 135;(first
       | ((with_reducible refine (zlz (HS.out.ext zx) ?_).mono ?_);(focus (have h9:=HLL.out _ _ _ _ HSEP.out;rw [HHD.out,HTM.out] at h9;simp only [Zh,Zk,List.length_nil] at h9 ⊢;omega));rintro e w1 ⟨rfl,hs1⟩;replace HS:=Za hs1;have bx:=HS.out.box HB0.out hgb (by decide);have bc:=zaV bx;have x0:=bc 0;have x1:=bc 1;have x2:=bc 2;have x3:=bc 3;have x4:=bc 4;have x5:=bc 5;simp only [List.getElem?_toArray,List.getElem?_cons_zero,List.getElem?_cons_succ] at x0 x1 x2 x3 x4 x5;clear bx bc hs1)
       | ((with_reducible refine (zlA (HS.out.ext zx) ?_).mono ?_);(focus (have h9:=HLL.out _ _ _ _ HSEP.out;rw [HHD.out,HTM.out] at h9;simp only [Zh,Zk,List.length_nil] at h9 ⊢;omega));rintro e w1 ⟨rfl,hs1⟩;replace HS:=Za hs1;have bx:=HS.out.box HB0.out hgb (by decide);have bc:=zaV bx;have x0:=bc 0;have x1:=bc 1;have x2:=bc 2;have x3:=bc 3;have x4:=bc 4;have x5:=bc 5;simp only [List.getElem?_toArray,List.getElem?_cons_zero,List.getElem?_cons_succ] at x0 x1 x2 x3 x4 x5;clear bx bc hs1)
       | (((with_reducible refine (zlB (HS.out.ext zx) ?_).mono ?_);(focus (have h9:=HLL.out _ _ _ _ HSEP.out;rw [HHD.out,HTM.out] at h9;simp only [Zh,Zk,List.length_nil] at h9 ⊢;omega));rintro e w1 ⟨rfl,hs1⟩;replace HS:=Za hs1;have bx:=HS.out.box HB0.out hgb (by decide);have bc:=zaV bx;have x0:=bc 0;have x1:=bc 1;have x2:=bc 2;have x3:=bc 3;have x4:=bc 4;have x5:=bc 5;simp only [List.getElem?_toArray,List.getElem?_cons_zero,List.getElem?_cons_succ] at x0 x1 x2 x3 x4 x5;clear bx bc hs1))))
      | (go_at_call 102;((with_reducible refine (HC.out _ _ _ (HS.out.ext zx) ?_).mono ?_);(focus (have h9:=HLL.out _ _ _ _ HSEP.out;rw [HHD.out,HTM.out] at h9;simp only [Zh,Zk,List.length_nil] at h9 ⊢;omega));rintro e w1 ⟨rfl,hs1⟩;replace HS:=Za hs1;have bx:=HS.out.box HB0.out hgb (by decide);have bc:=zaV bx;have x0:=bc 0;have x1:=bc 1;have x2:=bc 2;have x3:=bc 3;have x4:=bc 4;have x5:=bc 5;simp only [List.getElem?_toArray,List.getElem?_cons_zero,List.getElem?_cons_succ] at x0 x1 x2 x3 x4 x5;clear bx bc hs1))
      | (go_at_call 136;((with_reducible refine (HTX.out HOK.out _ (HS.out.ex.trans zx) _ (znj (by simp))).mono ?_);rintro e w1 ⟨rfl,hq1⟩;have hs1:=HS.out.ext (Zb zx hq1);replace HS:=Za hs1;have bx:=HS.out.box HB0.out hgb (by decide);have bc:=zaV bx;have x0:=bc 0;have x1:=bc 1;have x2:=bc 2;have x3:=bc 3;have x4:=bc 4;have x5:=bc 5;simp only [List.getElem?_toArray,List.getElem?_cons_zero,List.getElem?_cons_succ] at x0 x1 x2 x3 x4 x5;clear bx bc hs1))
      | (go_at_call 37;((with_reducible refine (HIT.out _ (HS.out.ex.trans zx)).mono ?_);rintro e w1 ⟨rfl,hq1⟩;have hs1:=HS.out.ext (Zb zx hq1);replace HS:=Za hs1;have bx:=HS.out.box HB0.out hgb (by decide);have bc:=zaV bx;have x0:=bc 0;have x1:=bc 1;have x2:=bc 2;have x3:=bc 3;have x4:=bc 4;have x5:=bc 5;simp only [List.getElem?_toArray,List.getElem?_cons_zero,List.getElem?_cons_succ] at x0 x1 x2 x3 x4 x5;clear bx bc hs1))
      | (go_at_call 36;((with_reducible refine (zbC _ (HS.out.ext zx) ?_).mono ?_);(focus (have h9:=HLL.out _ _ _ _ HSEP.out;rw [HHD.out,HTM.out] at h9;simp only [Zh,Zk,List.length_nil] at h9 ⊢;omega));rintro e w1 ⟨rfl,hs1⟩;replace HS:=Za hs1;have bx:=HS.out.box HB0.out hgb (by decide);have bc:=zaV bx;have x0:=bc 0;have x1:=bc 1;have x2:=bc 2;have x3:=bc 3;have x4:=bc 4;have x5:=bc 5;simp only [List.getElem?_toArray,List.getElem?_cons_zero,List.getElem?_cons_succ] at x0 x1 x2 x3 x4 x5;clear bx bc hs1)))
    all_goals
     go_roundw
     case rel =>
      refine ⟨k+1,_,r,by go_num,by omega,by omega,Za ⟨HS.out.base (HW0.out.kp.alloc _),?_,HFR.out,fun h=>⟨b1,off,rfl,hb1,?_⟩⟩⟩
      ·rw [←HEQ.out,HSEP.out,HHD.out,HTM.out,zm2 (by omega)]
       simp
      ·rw [show off+(k+1)*6=off+k*6+6 by omega]
       exact HR.out
     case measure=>simp [intOf];omega
   ·have hn0:rest.cnt=0:=by omega
    obtain rfl:=zbd hn0
    simp only [Tms.cnt] at hcnt
    obtain ⟨e2,e3, -⟩:=HH.out
    obtain rfl:k=n:=by omega
    rw [zjC,ZH] at e3
    subst e3
    have HE:=Za e2
    clear e2
    go_wp2_with fail
    go_end0
    exact ⟨rfl,HE.out⟩
end Go.Proofs.YtkneghkbgingdaaGreatDoor
