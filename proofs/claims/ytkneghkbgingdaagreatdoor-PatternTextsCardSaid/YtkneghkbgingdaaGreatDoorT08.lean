/- The walk of write: the text of terms goes into a builder. -/
import Derived.Test.YtkneghkbgingdaaGreatDoorT07
import Derived.Lib.DecodeN
import Derived.Lib.IndexAny
import Derived.Lib.OthersKept
import Derived.Laws.RangeAny
import Derived.Deep.LoopGhost
import Derived.Lib.AtoiTie
set_option maxHeartbeats 16000000
namespace Go.Proofs.YtkneghkbgingdaaGreatDoor
set_option maxRecDepth 100000
open Go.RowKit Go.ChangeShapes Go.WideShapes Go.Joins
def sepT (k:Nat) (r:Tms):List UInt8:=match r with
 | .nil=>[]
 | r=>if k=0 then wT r else 32::wT r
theorem zeQ (t:Tms):sepT 0 t=wT t:=by cases t <;> rfl
theorem zla (k:Nat):sepT k .nil=[]:=rfl
theorem zf3 (N:Int) (c:St) (g r:Tms):sepT 0 (.cons N c g r)=headW c g++(timesW N++sepT 1 r):=by
 rw [zeQ]
 by_cases hr:r = .nil
 ·subst hr;rw [zcZ,zla,ZC]
 ·rw [zbW _ _ _ _ hr,ZB]
  cases r with
  | nil=>exact absurd rfl hr
  | cons=>rfl
theorem zmT {k:Nat} (hk:0<k) (N:Int) (c:St) (g r:Tms):sepT k (.cons N c g r)=32::(headW c g++(timesW N++sepT 1 r)):=by
 have h:=zf3 N c g r
 rw [zeQ] at h
 rw [<-h]
 show (if k=0 then wT (.cons N c g r) else 32::wT (.cons N c g r))=_
 rw [if_neg (by omega)]
theorem zow {k:Nat} (hk:0<k) (r:Tms):sepT k r=sepT 1 r:=by
 cases r with
 | nil=>rfl
 | cons N c g r=>show (if k=0 then wT (.cons N c g r) else 32::wT (.cons N c g r))=32::wT (.cons N c g r);rw [if_neg (by omega)]
theorem zaY {w:World} {g:Nat} {cs:Array Value} {T:TypeId} {fz:Nat×Nat} (h:w.heap[g]?=some (.cells cs T fz)):∀j,w.cell? ⟨g,j,none⟩=cs[j]?:=fun j=>cell_of_row w g j cs T fz h
theorem znK {w:World} (o:Obj):(w.alloc o).heap[w.heap.size]?=some o:=heap_alloc_new w _
theorem zfj {w:World} {g:Nat} {o:Obj} (h:g=w.heap.size):(w.alloc o).heap[g]?=some o:=by subst h;exact heap_alloc_new w _
theorem WSt.box {W0 w0 w:World} {b g:Nat} {l:List UInt8} {cs:Array Value} {T:TypeId} {fz:Nat×Nat} (h:WSt W0 w0 b l w) (hb:w0.heap[g]?=some (.cells cs T fz)) (hg:g≠b) (hT:T≠5):w.heap[g]?=some (.cells cs T fz) :=
 h.kp g _ hb (by simpa using hg) (fun c fz' e=>by cases e;exact hT rfl)
theorem zoH {T e:TypeId} {B b:Nat} {bs:List Value} {w:World} (h:Lib.IsBuilderF T e B b bs w):b<w.heap.size:=by
 have at_:∀p,Lib.BuilderAtF T e B b p bs w->b<w.heap.size:=fun p ⟨_,v,hbk,_⟩=>(Zm.1 hbk).1
 exact h.elim (at_ _) (at_ _)
theorem zm5 {W0 w0 w:World} {b:Nat} {l:List UInt8} (h:WSt W0 w0 b l w) (hl:l.length<=1000000000) :
  Calls Tryz.prog 135 #[.pointer (some ⟨b,0,none⟩),.int .u8 32] w fun e w'=>e = .returned .nilIface/\WSt W0 w0 b (l++[32]) w':=zha 32 32 (by rfl) h hl
theorem zm6 {W0 w0 w:World} {b:Nat} {l:List UInt8} (h:WSt W0 w0 b l w) (hl:l.length<=1000000000) :
  Calls Tryz.prog 135 #[.pointer (some ⟨b,0,none⟩),.int .u8 40] w fun e w'=>e = .returned .nilIface/\WSt W0 w0 b (l++[40]) w':=zha 40 40 (by rfl) h hl
theorem zm7 {W0 w0 w:World} {b:Nat} {l:List UInt8} (h:WSt W0 w0 b l w) (hl:l.length<=1000000000) :
  Calls Tryz.prog 135 #[.pointer (some ⟨b,0,none⟩),.int .u8 41] w fun e w'=>e = .returned .nilIface/\WSt W0 w0 b (l++[41]) w':=zha 41 41 (by rfl) h hl
theorem zel {w:World} {g:Nat} {k:Int} {p:Bool} {a b:Int} {T:TypeId} (h:w.heap[g]?=some (.cells #[.int .u8 k,.bool p,.int .i64 a,.int .i64 b] T (0,0))):Vec shSt w (some ⟨g,0,none⟩) 1 [⟨k,p,a,b⟩]:=by
 refine ⟨rfl,fun _=>⟨g,0,rfl,(Zm.1 h).1,fun j x hx i u hu=>?_⟩⟩
 have hj:j=0:=by
  have:=(ZK.1 hx).1
  simpa using this
 subst hj
 simp at hx
 subst hx
 rw [zaY h]
 simpa [shSt,stc] using hu
theorem zlw:∀(M:Nat),M<=5000->∀(t:Tms),t.size<=M->fineT t=true->∀(W0 w0:World) (b:Nat) (A:Option Addr) (n cap:Nat) (l:List UInt8) (w:World),Glob W0->Tv W0 A n t->WSt W0 w0 b l w->l.length+(wT t).length<=10000000 ->
  Calls Tryz.prog 102 #[.pointer (some ⟨b,0,none⟩),.slice A n cap] w fun e w'=>e = .returned (.tuple #[])/\WSt W0 w0 b (l++wT t) w':=by
 intro M
 induction M using Nat.strongRecOn with
 | ind M ih =>
  intro hM t ht hf W0 w0 b A n cap l w hg hv hs ai
  have HI:=Za ih
  have HV:=Za hv
  have HG:=Za hg
  have ap:=Za hs
  have HF:=Za hf
  have aA:=Za ai
  have hnm:n<=5000:=by have h1:=hv.1;have h2:=zap t;omega
  clear ih hv hg hs hf ai
  go_enter Tryz.func102,Tryz.ntmps102
  go_wp2_with fail
  go_loopw [10] (fun i wr=>∃(k:Nat) (cur:List UInt8) (rest:Tms),i = .int .i64 k/\rest.cnt+k=n/\rest.size<=M /\
   Hid (WSt W0 w0 b cur wr/\cur++sepT k rest=l++wT t/\fineT rest=true/\(0<rest.cnt->∃b1 off,A=some ⟨b1,off,none⟩/\b1<W0.heap.size/\TAt W0 rest b1 (off+k*6)))) (fun i _=>n-(intOf i).toNat)
  case atStart =>
   refine ⟨0,l,t,rfl,by have:=HV.out.1;omega,ht,Za ⟨ap.out.ext zx,by rw [zeQ],HF.out,fun h=>?_⟩⟩
   obtain ⟨h1,h2,h3⟩:=HV.out
   obtain ⟨b,off,e,hb,hc⟩:=h3 (by omega)
   exact ⟨b,off,e,hb,by simpa using hc⟩
  case round =>
   obtain ⟨k,cur,rest,rfl,hcnt,aI,HH⟩:=hrel
   by_cases hlt:0<rest.cnt
   ·obtain ⟨N,c,g,r,rfl⟩:=zaO hlt
    obtain ⟨b1,off,rfl,am,hc⟩:=HH.out.2.2.2 hlt
    obtain ⟨A',n',cap',d0,d1,d2,d3,d4,d5,av,hg,hr⟩:=hc.head
    have aj:=HH.out.1
    have an:=aj.ex
    obtain ⟨⟨hN0,hN1⟩,aq,ar⟩:=za9 HH.out.2.2.1
    obtain ⟨-, -, -,aw, -⟩:=zaM HH.out.2.2.1
    have ay:=Za ar
    simp only [Tms.cnt,Tms.size] at hcnt aI
    have hkn:k<n:=by omega
    have hz:b1<wr.heap.size:=Zo am (Zl an)
    have hbl:=zoH aj.bl
    have ae:=fun (w1:World) (cu:List UInt8) (wx:World) (h:WSt W0 w1 b cu wx) (hl:cu.length+(wT g).length<=10000000)=>HI.out (M-1) (by omega) (by omega) g (by omega) aq W0 w1 b A' n' cap' cu wx HG.out hg h hl
    have HC:=Za ae
    have au:=hg.1
    have q0:(0:Int)<=(k:Int):=by omega
    have q1:(k:Int)<(n:Int):=by omega
    have HR:=Za hr
    have az:=Za av
    have ax:=Za HH.out.2.1
    have al:=Za (show cur.length+(sepT k (.cons N c g r)).length<=10000000 by
     have h1:=congrArg List.length HH.out.2.1
     rw [Zb,Zb] at h1
     have:=aA.out
     omega)
    have ak:=Za aw
    have ao:=Za (fun (w':World) (h:Ext W0 w')=>zah N (by omega) (by omega) w' (HG.out.ext h))
    obtain ⟨ck,cp,ca,cb⟩:=c
    simp only at d1 d2 d3 d4
    obtain ⟨wq,rfl⟩:∃wq:World,wq=wr:=⟨_,rfl⟩
    have fwd:∀(o:Nat) (u:Value),W0.cell? ⟨b1,o,none⟩=some u->wq.cell? ⟨b1,o,none⟩=some u:=fun o u h=>(Zs (p:=⟨b1,o,none⟩) an am).trans h
    have c0:=fwd _ _ d0
    have c1:=fwd _ _ d1
    have c2:=fwd _ _ d2
    have c3:=fwd _ _ d3
    have c4:=fwd _ _ d4
    have c5:=fwd _ _ d5
    have af:=Za (znK (w:=wq) (.cells #[.int .i64 N,.int .u8 ck,.bool cp,.int .i64 ca,.int .i64 cb,.slice A' n' cap'] 134))
    have aC:=Za aj
    have HS:=Za (aj.ext ((Zf wq).alloc (.cells #[.int .i64 N,.int .u8 ck,.bool cp,.int .i64 ca,.int .i64 cb,.slice A' n' cap'] 134))).here
    have ag:wq.heap.size≠b:=by omega
    have ab:(¬((0:Int)<(k:Int))/\Hid (sepT k (.cons N ⟨ck,cp,ca,cb⟩ g r)=[]++(headW ⟨ck,cp,ca,cb⟩ g++(timesW N++sepT 1 r))))∨(((0:Int)<(k:Int))/\Hid (sepT k (.cons N ⟨ck,cp,ca,cb⟩ g r)=[32]++(headW ⟨ck,cp,ca,cb⟩ g++(timesW N++sepT 1 r)))):=by
     rcases Nat.eq_zero_or_pos k with h | h
     ·left;subst h;exact ⟨by omega,Za (zf3 _ _ _ _)⟩
     ·right;exact ⟨by omega,Za (zmT h _ _ _ _)⟩
    obtain ⟨T,hT⟩:∃T,textL [⟨ck,cp,ca,cb⟩]=T:=⟨_,rfl⟩
    have ac:(((0:Int)<(n':Int))/\Hid (headW ⟨ck,cp,ca,cb⟩ g=[40]++(wT g++[41])))∨(¬((0:Int)<(n':Int))/\Hid (headW ⟨ck,cp,ca,cb⟩ g=T)/\Hid (okSt ⟨ck,cp,ca,cb⟩=true)):=by
     rcases Nat.eq_zero_or_pos n' with h | h
     ·right;obtain rfl:=zas (t:=g) (by omega);exact ⟨by omega,Za hT,Za (ak.out rfl)⟩
     ·left;exact ⟨by omega,Za (zaX (by rintro rfl;simp [Tms.cnt] at au;omega))⟩
    have aB:=Za (fun (ho:okSt ⟨ck,cp,ca,cb⟩=true) (w':World) (hb:Ext W0 w') (g0:Nat) (hx:w'.heap[g0]?=some (.cells #[.int .u8 ck,.bool cp,.int .i64 ca,.int .i64 cb] 132 (0,0)))=>(show Calls Tryz.prog 136 #[.slice (some ⟨g0,0,none⟩) 1 1] w' fun e w''=>e = .returned (.tuple #[.string ⟨T.toArray⟩,.int .i64 0])/\Ext w' w'' from by
     have h:=zlg 1 1 (some ⟨g0,0,none⟩) [⟨ck,cp,ca,cb⟩] w' (zel hx) (by unfold maxLen;omega) (fun j hj=>by obtain rfl:j=0:=(by simpa using hj);exact az.out) (HG.out.ext hb)
     rw [textG,if_pos (zbj ho).1,(zbj ho).1,hT] at h
     exact h))
    have aE:=zac N.toNat
    obtain ⟨D,hD⟩:∃D,decD N.toNat=D:=⟨_,rfl⟩
    rw [hD] at aE ao
    have hcat:(⟨#[42]⟩++⟨D.toArray⟩:ByteArray)=⟨(42::D).toArray⟩:=zaa [42] D
    have ad:(1<N/\Hid (timesW N=42::D))∨(¬1<N/\Hid (timesW N=[])):=by
     by_cases h:1<N
     ·left;exact ⟨h,Za (by rw [timesW,if_pos h,hD])⟩
     ·right;exact ⟨h,Za (by rw [timesW,if_neg h])⟩
    clear ae hc an ar aq av fwd hg hr d0 d1 d2 d3 d4 d5 aj aw HF ak ap au hT hD
    rcases ab with ⟨aF,ab⟩ | ⟨aF,ab⟩ <;> rcases ac with ⟨aG,ac⟩ | ⟨aG,ac,ak⟩ <;> rcases ad with ⟨aD,ad⟩ | ⟨aD,ad⟩
    all_goals
     have ah:=Za (show ∀x y z u:List UInt8,sepT k (.cons N ⟨ck,cp,ca,cb⟩ g r)=x++(y++(z++u))->cur.length+x.length+y.length+z.length<=10000000 from fun x y z u h=>by have h1:=al.out;rw [h] at h1;simp only [Zb] at h1;omega)
    all_goals
     go_wp2_with (first
      | (go_at_call 135;(first
       | ((with_reducible refine (zm5 (HS.out.ext zx) ?_).mono ?_);(focus (have h9:=ah.out _ _ _ _ ab.out;rw [ac.out,ad.out] at h9;simp only [Zb,Zk,List.length_nil] at h9 ⊢;omega));rintro e w1 ⟨rfl,aa⟩;replace HS:=Za aa;have bx:=HS.out.box af.out ag (by decide);have bc:=zaY bx;have x0:=bc 0;have x1:=bc 1;have x2:=bc 2;have x3:=bc 3;have x4:=bc 4;have x5:=bc 5;simp only [List.getElem?_toArray,List.getElem?_cons_zero,List.getElem?_cons_succ] at x0 x1 x2 x3 x4 x5;clear bx bc aa)
       | ((with_reducible refine (zm6 (HS.out.ext zx) ?_).mono ?_);(focus (have h9:=ah.out _ _ _ _ ab.out;rw [ac.out,ad.out] at h9;simp only [Zb,Zk,List.length_nil] at h9 ⊢;omega));rintro e w1 ⟨rfl,aa⟩;replace HS:=Za aa;have bx:=HS.out.box af.out ag (by decide);have bc:=zaY bx;have x0:=bc 0;have x1:=bc 1;have x2:=bc 2;have x3:=bc 3;have x4:=bc 4;have x5:=bc 5;simp only [List.getElem?_toArray,List.getElem?_cons_zero,List.getElem?_cons_succ] at x0 x1 x2 x3 x4 x5;clear bx bc aa)
       | (((with_reducible refine (zm7 (HS.out.ext zx) ?_).mono ?_);(focus (have h9:=ah.out _ _ _ _ ab.out;rw [ac.out,ad.out] at h9;simp only [Zb,Zk,List.length_nil] at h9 ⊢;omega));rintro e w1 ⟨rfl,aa⟩;replace HS:=Za aa;have bx:=HS.out.box af.out ag (by decide);have bc:=zaY bx;have x0:=bc 0;have x1:=bc 1;have x2:=bc 2;have x3:=bc 3;have x4:=bc 4;have x5:=bc 5;simp only [List.getElem?_toArray,List.getElem?_cons_zero,List.getElem?_cons_succ] at x0 x1 x2 x3 x4 x5;clear bx bc aa))))
      | (go_at_call 102;((with_reducible refine (HC.out _ _ _ (HS.out.ext zx) ?_).mono ?_);(focus (have h9:=ah.out _ _ _ _ ab.out;rw [ac.out,ad.out] at h9;simp only [Zb,Zk,List.length_nil] at h9 ⊢;omega));rintro e w1 ⟨rfl,aa⟩;replace HS:=Za aa;have bx:=HS.out.box af.out ag (by decide);have bc:=zaY bx;have x0:=bc 0;have x1:=bc 1;have x2:=bc 2;have x3:=bc 3;have x4:=bc 4;have x5:=bc 5;simp only [List.getElem?_toArray,List.getElem?_cons_zero,List.getElem?_cons_succ] at x0 x1 x2 x3 x4 x5;clear bx bc aa))
      | (go_at_call 136;((with_reducible refine (aB.out ak.out _ (HS.out.ex.trans zx) _ (zfj (by simp))).mono ?_);rintro e w1 ⟨rfl,hq1⟩;have aa:=HS.out.ext (Zi zx hq1);replace HS:=Za aa;have bx:=HS.out.box af.out ag (by decide);have bc:=zaY bx;have x0:=bc 0;have x1:=bc 1;have x2:=bc 2;have x3:=bc 3;have x4:=bc 4;have x5:=bc 5;simp only [List.getElem?_toArray,List.getElem?_cons_zero,List.getElem?_cons_succ] at x0 x1 x2 x3 x4 x5;clear bx bc aa))
      | (go_at_call 37;((with_reducible refine (ao.out _ (HS.out.ex.trans zx)).mono ?_);rintro e w1 ⟨rfl,hq1⟩;have aa:=HS.out.ext (Zi zx hq1);replace HS:=Za aa;have bx:=HS.out.box af.out ag (by decide);have bc:=zaY bx;have x0:=bc 0;have x1:=bc 1;have x2:=bc 2;have x3:=bc 3;have x4:=bc 4;have x5:=bc 5;simp only [List.getElem?_toArray,List.getElem?_cons_zero,List.getElem?_cons_succ] at x0 x1 x2 x3 x4 x5;clear bx bc aa))
      | (go_at_call 36;((with_reducible refine (zbK _ (HS.out.ext zx) ?_).mono ?_);(focus (have h9:=ah.out _ _ _ _ ab.out;rw [ac.out,ad.out] at h9;simp only [Zb,Zk,List.length_nil] at h9 ⊢;omega));rintro e w1 ⟨rfl,aa⟩;replace HS:=Za aa;have bx:=HS.out.box af.out ag (by decide);have bc:=zaY bx;have x0:=bc 0;have x1:=bc 1;have x2:=bc 2;have x3:=bc 3;have x4:=bc 4;have x5:=bc 5;simp only [List.getElem?_toArray,List.getElem?_cons_zero,List.getElem?_cons_succ] at x0 x1 x2 x3 x4 x5;clear bx bc aa)))
    all_goals
     go_roundw
     case rel =>
      refine ⟨k+1,_,r,by go_num,by omega,by omega,Za ⟨HS.out.base (aC.out.kp.alloc _),?_,ay.out,fun h=>⟨b1,off,rfl,am,?_⟩⟩⟩
      ·rw [<-ax.out,ab.out,ac.out,ad.out,zow (by omega)]
       simp
      ·rw [show off+(k+1)*6=off+k*6+6 by omega]
       exact HR.out
     case measure=>simp [intOf];omega
   ·have aH:rest.cnt=0:=by omega
    obtain rfl:=zas aH
    simp only [Tms.cnt] at hcnt
    obtain ⟨e2,e3, -⟩:=HH.out
    obtain rfl:k=n:=by omega
    rw [zla,ZC] at e3
    subst e3
    have HE:=Za e2
    clear e2
    go_wp2_with fail
    go_end0
    exact ⟨rfl,HE.out⟩
end Go.Proofs.YtkneghkbgingdaaGreatDoor
/- Text of terms. -/
namespace Go.Proofs.YtkneghkbgingdaaGreatDoor
set_option maxRecDepth 100000
open Go.RowKit Go.ChangeShapes Go.WideShapes Go.Joins
theorem zfe (w1:World):WSt w1 (w1.alloc (.cells #[.pointer none,.slice none 0 0] 80)) w1.heap.size [] (w1.alloc (.cells #[.pointer none,.slice none 0 0] 80)) :=
 ⟨znJ w1 _ 5 _ (Zg _),(Zf w1).alloc _,Lib.OthersKept.refl _ _ _⟩
theorem zlt:∀ {t:Tms},fineT t=true->(wT t).length<=200*t.size:=by
 intro t
 induction t with
 | nil=>intro _;simp [wT,Tms.size]
 | cons n c g r ih1 ih2 =>
  intro h
  obtain ⟨hn,hg,hr,hc,_⟩:=zaM h
  have h1:=ih1 hg
  have h2:=ih2 hr
  have h3:(timesW n).length<=21:=by
   unfold timesW
   have:=zac n.toNat
   split
   ·simp;omega
   ·simp
  have h4:(headW c g).length<=100+(wT g).length:=by
   by_cases h0:g = .nil
   ·subst h0
    have h5:=zcu (x:=(c,1)) (hc rfl)
    show (textL [c]).length<=_
    rw [zdP]
    have:(wordT c).length<=100:=by simpa [wordG] using h5
    omega
   ·rw [zaX h0]
    simp
    omega
  simp only [Tms.size]
  by_cases h0:r = .nil
  ·subst h0
   rw [zcZ,Zb]
   omega
  ·rw [zbW _ _ _ _ h0,Zb,Zb,Zk]
   omega
def TxR (t:Tms) (w:World) (e:Ending) (w':World):Prop:=e = .returned (.tuple #[.string ⟨(ttextV t).toArray⟩,.int .i64 (ttextE t)])/\Ext w w'
theorem zgh (t:Tms) (ht:t.size<=5000) (A:Option Addr) (n cap:Nat) (w:World) (hv:Tv w A n t) (hg:Glob w) :
  Calls Tryz.prog 71 #[.slice A n cap] w (TxR t w):=by
 have HV:=Za hv
 have HG:=Za hg
 obtain ⟨x,hx⟩:∃x,tchkE t=x:=⟨_,rfl⟩
 by_cases h0:x=0
 case neg =>
  have HT:=Za (show ttextE t=x/\ttextV t=[] by
   have h1:ttextE t=x:=by rw [ttextE,hx,if_pos h0]
   exact ⟨h1,by rw [ttextV,h1,if_neg h0]⟩)
  have HX:=Za hx
  have hb:(x != 0)=true:=by simpa using h0
  clear hv hg hx h0
  go_enter Tryz.func71,Tryz.ntmps71
  go_wp2_with (go_at_call 101;((with_reducible refine (zbr t ht A n cap _ (HV.out.ext zx)).mono ?_);rintro e w1 ⟨rfl,hq1⟩;rw [HX.out]))
  go_ret2
  exact ⟨by rw [HT.out.1,HT.out.2];rfl,zx⟩
 subst h0
 have HX:=Za hx
 obtain ⟨hs,hd,hf⟩:=zaN hx
 have af:=zlt hf
 obtain ⟨T,hT⟩:∃T,wT t=T:=⟨_,rfl⟩
 rw [hT] at af
 have hW:=fun (w0:World) (b:Nat) (w':World) (h1:Glob w0) (h2:Tv w0 A n t) (h3:WSt w0 w' b [] w')=>(show Calls Tryz.prog 102 #[.pointer (some ⟨b,0,none⟩),.slice A n cap] w' fun e w''=>e = .returned (.tuple #[])/\WSt w0 w' b T w'' from by
  have h:=zlw 5000 (by omega) t ht hf w0 w' b A n cap [] w' h1 h2 h3 (by rw [hT];simp;omega)
  rw [hT,List.nil_append] at h
  exact h)
 have HW:=Za hW
 have HE:(3000<T.length/\Hid (ttextE t=4/\ttextV t=[]))∨(¬3000<T.length/\Hid (ttextE t=0/\ttextV t=T)):=by
  by_cases h:3000<T.length
  ·left
   have h1:ttextE t=4:=by rw [ttextE,hx,if_neg (by simp),hT,if_pos h]
   exact ⟨h,Za ⟨h1,by rw [ttextV,h1,if_neg (by decide)]⟩⟩
  ·right
   have h1:ttextE t=0:=by rw [ttextE,hx,if_neg (by simp),hT,if_neg h]
   exact ⟨h,Za ⟨h1,by rw [ttextV,h1,if_pos rfl,hT]⟩⟩
 clear hv hg hx hW hT hf hs hd
 rcases HE with ⟨hl,HE⟩ | ⟨hl,HE⟩
 ·have ad:((3000:Int)<(T.length:Int)):=by omega
  go_enter Tryz.func71,Tryz.ntmps71
  go_wp2_with (first
   | (go_at_call 101;((with_reducible refine (zbr t ht A n cap _ (HV.out.ext zx)).mono ?_);rintro e w1 ⟨rfl,hq1⟩;rw [HX.out]))
   | (go_at_call 102;((with_reducible refine (HW.out w1 _ _ (HG.out.ext zx) (HV.out.ext zx) (zfe w1)).mono ?_);rintro e w2 ⟨rfl,ab⟩;have aa:=Za ab;clear ab))
   | (go_at_call 39;((refine (Tryz.Builder_Len_f _ _ _ _ aa.out.bl).mono ?_);rintro e w3 ⟨rfl,rfl⟩;rw [zaZ])))
  go_ret2
  exact ⟨by rw [HE.out.1,HE.out.2];rfl,Zi zx aa.out.ex⟩
 ·have ad:¬((3000:Int)<(T.length:Int)):=by omega
  go_enter Tryz.func71,Tryz.ntmps71
  go_wp2_with (first
   | (go_at_call 101;((with_reducible refine (zbr t ht A n cap _ (HV.out.ext zx)).mono ?_);rintro e w1 ⟨rfl,hq1⟩;rw [HX.out]))
   | (go_at_call 102;((with_reducible refine (HW.out w1 _ _ (HG.out.ext zx) (HV.out.ext zx) (zfe w1)).mono ?_);rintro e w2 ⟨rfl,ab⟩;have aa:=Za ab;clear ab))
   | (go_at_call 39;((refine (Tryz.Builder_Len_f _ _ _ _ aa.out.bl).mono ?_);rintro e w3 ⟨rfl,rfl⟩;rw [zaZ]))
   | (go_at_call 40;((refine (Tryz.Builder_String_any_k w1.heap.size _ T _ aa.out.bl (Zl aa.out.ex)).mono ?_);rintro e w4 ⟨rfl, -,ae, -⟩;have ac:=Za (Below.trans aa.out.ex ae))))
  go_ret2
  exact ⟨by rw [HE.out.1,HE.out.2];rfl,Zi zx ac.out⟩
end Go.Proofs.YtkneghkbgingdaaGreatDoor
/- Runes of bytes of 128 and more: they are no runes below 128,and what is skipped with them are such bytes. -/
namespace Go.Proofs.YtkneghkbgingdaaGreatDoor
set_option maxRecDepth 100000
theorem zjJ (n b0 b1 b2 b3:Nat) (h:128<=b0) (h2:b0<256) :
  128<=(Lib.decodeN n b0 b1 b2 b3).1/\(Lib.decodeN n b0 b1 b2 b3).1<=1114111/\((Lib.decodeN n b0 b1 b2 b3).1<55296∨57344<=(Lib.decodeN n b0 b1 b2 b3).1)/\1<=(Lib.decodeN n b0 b1 b2 b3).2 /\
  ∀k,k<(Lib.decodeN n b0 b1 b2 b3).2->k=0∨(k=1/\1<n/\128<=b1)∨(k=2/\2<n/\128<=b2)∨(k=3/\3<n/\128<=b3):=by
 have m1:=Nat.mod_lt b1 (show 0<64 by decide)
 have m2:=Nat.mod_lt b2 (show 0<64 by decide)
 have m3:=Nat.mod_lt b3 (show 0<64 by decide)
 unfold Lib.decodeN
 repeat' split
 all_goals refine ⟨?_,?_,?_,?_,fun k hk=>?_⟩
 all_goals simp only [] at *
 all_goals omega
theorem zlQ (s:ByteArray) (i:Nat) (hi:i<s.size) (h:128<=(s[i]'hi).toNat) :
  128<=(Utf8.decode s i).1/\(Utf8.decode s i).1<=1114111/\((Utf8.decode s i).1<55296∨57344<=(Utf8.decode s i).1)/\1<=(Utf8.decode s i).2/\i+(Utf8.decode s i).2<=s.size /\
  ∀(j:Nat) x,i<=j->j<i+(Utf8.decode s i).2->s.data.toList[j]?=some x->128<=x.toNat:=by
 have hg:∀(j:Nat),j<s.size->s.data.toList[j]?=some (s.get! j):=fun j hj=>by
  have ab:j<s.data.size:=hj
  rw [Array.getElem?_toList,Array.getElem?_eq_getElem ab]
  exact congrArg some (getElem!_pos s.data j ab).symm
 have e0:s.get! i=s[i]'hi:=by
  have ab:i<s.data.size:=hi
  exact getElem!_pos s.data i ab
 obtain ⟨h1,h2,h3,h4,h5⟩:=zjJ (s.size-i) (s.get! i).toNat (s.get! (i+1)).toNat (s.get! (i+2)).toNat (s.get! (i+3)).toNat (by rw [e0];exact h) (UInt8.toNat_lt _)
 rw [<-Lib.decode_at] at h1 h2 h3 h4 h5
 have hw:i+(Utf8.decode s i).2<=s.size:=by
  have h9:=h5 ((Utf8.decode s i).2-1) (by omega)
  omega
 refine ⟨h1,h2,h3,h4,hw,fun j x hij hj hx=>?_⟩
 rw [hg j (by omega)] at hx
 cases hx
 have h9:=h5 (j-i) (by omega)
 rcases h9 with h9 | ⟨h9,_,aa⟩ | ⟨h9,_,aa⟩ | ⟨h9,_,aa⟩
 ·rw [show j=i by omega,e0]
  exact h
 ·rw [show j=i+1 by omega]
  exact aa
 ·rw [show j=i+2 by omega]
  exact aa
 ·rw [show j=i+3 by omega]
  exact aa
theorem zpO (a b:UInt8):(⟨#[a,b]⟩:ByteArray)=⟨[a,b].toArray⟩:=rfl
theorem zpP (a b c:UInt8):(⟨#[a,b,c]⟩:ByteArray)=⟨[a,b,c].toArray⟩:=rfl
theorem zpQ (a b c d:UInt8):(⟨#[a,b,c,d]⟩:ByteArray)=⟨[a,b,c,d].toArray⟩:=rfl
theorem zlS (c:Nat) (h:128<=c) (h2:c<=1114111) (h3:c<55296∨57344<=c) :
  ∃(n:Nat) (l:List UInt8),Utf8.encode (c:Int)=⟨l.toArray⟩/\l.length=n+1/\1<=n/\n<=3/\∀x∈l,128<=x.toNat:=by
 have hv:Utf8.valid (c:Int)=true:=by
  unfold Utf8.valid
  rw [Bool.or_eq_true,Zt,Zt,ZG,ZG,ZG,ZG]
  omega
 have hb:∀n:Nat,128<=n->n<256->128<=(UInt8.ofNat n).toNat:=fun n h1 h2=>by
  rw [UInt8.toNat_ofNat',Nat.mod_eq_of_lt h2]
  exact h1
 unfold Utf8.encode
 rw [hv]
 simp only [if_true,Int.toNat_natCast]
 have d1:=Nat.mod_lt c (show 0<64 by decide)
 have d2:=Nat.mod_lt (c / 64) (show 0<64 by decide)
 have d3:=Nat.mod_lt (c / 4096) (show 0<64 by decide)
 rw [if_neg (by omega)]
 split
 ·refine ⟨1,_,zpO _ _,rfl,by omega,by omega,fun x hx=>?_⟩
  simp only [ZI,List.not_mem_nil,or_false] at hx
  rcases hx with rfl | rfl <;> exact hb _ (by omega) (by omega)
 ·split
  ·refine ⟨2,_,zpP _ _ _,rfl,by omega,by omega,fun x hx=>?_⟩
   simp only [ZI,List.not_mem_nil,or_false] at hx
   rcases hx with rfl | rfl | rfl <;> exact hb _ (by omega) (by omega)
  ·refine ⟨3,_,zpQ _ _ _ _,rfl,by omega,by omega,fun x hx=>?_⟩
   simp only [ZI,List.not_mem_nil,or_false] at hx
   rcases hx with rfl | rfl | rfl | rfl <;> exact hb _ (by omega) (by omega)
end Go.Proofs.YtkneghkbgingdaaGreatDoor
/- The library contracts that this claim uses besides,laid at its program by the kit (lay-shelf,lay-plain) and cut down to those. -/
namespace Go.Proofs
open Go.Shelf
end Go.Proofs
/- Where the first of the four bytes " ()*" stands in a string of any bytes. -/
namespace Go.Proofs.YtkneghkbgingdaaGreatDoor
set_option maxRecDepth 100000
open Go.RowKit Go.ChangeShapes Go.WideShapes Go.Joins
theorem zcR (c:Nat) (h2:c<=1114111) (h3:c<55296∨57344<=c) (w:World) :
  Calls Tryz.prog 210 #[.int .i32 (c:Int)] w fun e w'=>e = .returned (.bool true)/\w'=w:=by
 have h0:(0:Int)<=(c:Int):=by omega
 rcases h3 with h | h
 ·have q1:(c:Int)<55296:=by omega
  clear h h2
  go_enter Tryz.func210,Tryz.ntmps210
  go_wp2_with fail
  go_ret
  exact ⟨rfl,rfl⟩
 ·have q1:¬((c:Int)<55296):=by omega
  have q2:(57343:Int)<(c:Int):=by omega
  have q3:(c:Int)<=1114111:=by omega
  clear h h2
  go_enter Tryz.func210,Tryz.ntmps210
  go_wp2_with fail
  go_ret
  exact ⟨rfl,rfl⟩
theorem zg3 {l:List UInt8} (hl:∀x∈l,x=32∨x=40∨x=41∨x=42) {b:UInt8} (hb:128<=b.toNat):Lib.indexByte l ((b.toNat:Int)).toNat.toUInt8 = -1:=by
 have e:((b.toNat:Int)).toNat.toUInt8=b:=by simp
 rw [e]
 induction l with
 | nil=>rfl
 | cons x l ih =>
  have h1:=hl x (by simp)
  have h2:(x==b)=false:=by
   rw [Ze]
   rintro rfl
   rcases h1 with rfl | rfl | rfl | rfl <;> exact absurd hb (by decide)
  have h3:=ih fun y hy=>hl y (by simp [hy])
  rw [Lib.indexByte,h2]
  simp [h3]
theorem zmW (s:ByteArray) (hs:s=⟨#[32,40,41,42]⟩) (i:Nat) (hi:i<s.size):(s[i]'hi).toNat<128:=by
 subst hs
 have h4:i<4:=hi
 match i,h4 with
 | 0,_=>exact (show (32:UInt8).toNat<128 by decide)
 | 1,_=>exact (show (40:UInt8).toNat<128 by decide)
 | 2,_=>exact (show (41:UInt8).toNat<128 by decide)
 | 3,_=>exact (show (42:UInt8).toNat<128 by decide)
theorem zjc (s:ByteArray) (hs:s=⟨#[32,40,41,42]⟩) (w:World):Calls Tryz.prog 202 #[.string s,.int .i32 65533] w fun e w'=>e = .returned (.int .i64 (-1))/\Ext w w':=by
 have ah:=Za (zmW s hs)
 clear hs
 go_enter Tryz.func202,Tryz.ntmps202
 go_wp2_with fail
 go_loopg [] s.size (fun g wx=>∃i:Nat,i+g=s.size/\wx.heap[w.heap.size]?=some (.stringIter s i)/\Below w.heap.size w wx)
 case atStart=>exact ⟨0,by omega,World.iter_heap w s 0,(Below.refl _ w).alloc (Zg _) _⟩
 case round =>
  obtain ⟨i,hig,ae,ad⟩:=hrel
  have HB:=Za ad
  by_cases hi:i<s.size
  ·obtain ⟨g,rfl⟩:∃g,gk=g+1:=⟨gk-1,by omega⟩
   obtain ⟨x,hx⟩:∃x:UInt8,s[i]'hi=x:=⟨_,rfl⟩
   have ac:x.toNat<128:=by rw [<-hx];exact ah.out i hi
   have af:=fun ty=>Lib.run_next_ascii_at (P:=Tryz.prog) wr w.heap.size s i ty ae hi (by rw [hx];exact ac)
   rw [hx] at af
   have ab:=Lib.iterAt_heap wr w.heap.size s i (i+1) ae
   have aa:=Lib.below_iterAt ad (k:=w.heap.size) (Zg _) s (i+1)
   obtain ⟨W,ag⟩:∃W,wr.iterAt w.heap.size s (i+1)=W:=⟨_,rfl⟩
   rw [ag] at af ab aa
   have q:((x.toNat:Int)==65533)=false:=by rw [Ze];omega
   have H2:=Za (And.intro ab aa)
   clear hx ag ab aa ad
   go_wp2_with fail
   go_roundg g
   case measure=>omega
   case rel=>exact ⟨i+1,by omega,H2.out.1,H2.out.2⟩
  ·have af:∀ty,(Instr.next (.pointer (some ⟨w.heap.size,0,none⟩)) true ty).run Tryz.prog wr=_:=fun ty=>Lib.run_next_end_at wr w.heap.size s i ty ae hi
   clear ad
   go_wp2_with fail
   go_ret
   exact ⟨rfl,HB.out⟩
theorem zpb (r:Nat) (h1:128<=r) (h2:r<=1114111) (h3:r<55296∨57344<=r) (h4:r≠65533) (a b:UInt8) (hb:128<=b.toNat) (he:Utf8.encode (r:Int)=⟨#[a,b]⟩) (w:World) :
  Calls Tryz.prog 202 #[.string ⟨#[32,40,41,42]⟩,.int .i32 (r:Int)] w fun e w'=>e = .returned (.int .i64 (-1))/\Ext w w':=by
 have q0:(0:Int)<=(r:Int):=by omega
 have q1:¬((r:Int)<128):=by omega
 have q2:((r:Int)==65533)=false:=by rw [Ze];omega
 have q3:((40:Int) != (b.toNat:Int))=true:=by simp;omega
 have HI:=Za (zg3 (l:=[41,42]) (by simp) hb)
 have HV:=Za (fun w=>zcR r h2 h3 w)
 obtain ⟨C,hC⟩:∃C:ByteArray,(⟨#[32,40,41,42]⟩:ByteArray)=C:=⟨_,rfl⟩
 obtain ⟨E,hE⟩:∃E:ByteArray,(⟨#[a,b]⟩:ByteArray)=E:=⟨_,rfl⟩
 obtain ⟨T,hT⟩:∃T:ByteArray,(⟨#[41,42]⟩:ByteArray)=T:=⟨_,rfl⟩
 have c0:C.size=4:=by rw [<-hC];rfl
 have c1:∀h:1<C.size,C[1]'h=40:=by subst hC;exact fun _=>rfl
 have c2:C.extract 2 C.size=T:=by rw [<-hC,<-hT];rfl
 have d0:(1:Int)<(C.size:Int):=by omega
 have d1:(2:Int)<=(C.size:Int):=by omega
 have d2:2<=C.size:=by omega
 have iw:=Zh (2:Int) (by omega)
 have d3:¬((C.size:Int)<2):=by omega
 have e0:E.size=2:=by rw [<-hE];rfl
 have e1:∀h:1<E.size,E[1]'h=b:=by subst hE;exact fun _=>rfl
 have HT:=Za (show T.data.toList=[41,42] by rw [<-hT])
 rw [hE] at he
 rw [hC]
 clear h2 h3 h4 hC hE hT c0
 go_enter Tryz.func202,Tryz.ntmps202
 go_wp2_with (first
  | (go_at_call 210;((with_reducible refine (HV.out _).mono ?_);rintro e w1 ⟨rfl,aa⟩;rw [aa])))
 go_step3
 go_wp2_with fail
 go_loopw [9] (fun i wr=>i = .int .i64 1/\wr=w) (fun _ _=>0)
 case atStart=>exact ⟨rfl,rfl⟩
 case round =>
  obtain ⟨rfl,ab⟩:=hrel
  rw [ab]
  clear ab
  go_wp2_with fail
  go_step3
  go_wp2_with fail
  go_region_held3 (fun _=>True) (trivial) (fail)
  all_goals (go_wp2_with fail;(try clear he);(try clear c1);(try clear q2);(try clear q3);(try clear q0);(try clear q1);(try clear h1);go_region_held3 (fun _=>True) (trivial) ((go_at_call 199;((with_reducible refine (Tryz.strings_IndexByte T (b.toNat:Int) _).mono ?_);rintro e w1 ⟨rfl,aa⟩;rw [aa,HT.out,HI.out]))))
  all_goals (go_wp2_with fail;(refine (show bodyPost Tryz.prog Tryz.f202 (fun e w'=>e = .returned (.int .i64 (-1))/\Ext w w') Exit.ret _ _ from ?_));go_ret;exact ⟨rfl,zx⟩)
theorem zpc (r:Nat) (h1:128<=r) (h2:r<=1114111) (h3:r<55296∨57344<=r) (h4:r≠65533) (a b c:UInt8) (hb:128<=c.toNat) (he:Utf8.encode (r:Int)=⟨#[a,b,c]⟩) (w:World) :
  Calls Tryz.prog 202 #[.string ⟨#[32,40,41,42]⟩,.int .i32 (r:Int)] w fun e w'=>e = .returned (.int .i64 (-1))/\Ext w w':=by
 have q0:(0:Int)<=(r:Int):=by omega
 have q1:¬((r:Int)<128):=by omega
 have q2:((r:Int)==65533)=false:=by rw [Ze];omega
 have q3:((41:Int) != (c.toNat:Int))=true:=by simp;omega
 have HI:=Za (zg3 (l:=[42]) (by simp) hb)
 have HV:=Za (fun w=>zcR r h2 h3 w)
 obtain ⟨C,hC⟩:∃C:ByteArray,(⟨#[32,40,41,42]⟩:ByteArray)=C:=⟨_,rfl⟩
 obtain ⟨E,hE⟩:∃E:ByteArray,(⟨#[a,b,c]⟩:ByteArray)=E:=⟨_,rfl⟩
 obtain ⟨T,hT⟩:∃T:ByteArray,(⟨#[42]⟩:ByteArray)=T:=⟨_,rfl⟩
 have c0:C.size=4:=by rw [<-hC];rfl
 have c1:∀h:2<C.size,C[2]'h=41:=by subst hC;exact fun _=>rfl
 have c2:C.extract 3 C.size=T:=by rw [<-hC,<-hT];rfl
 have d0:(2:Int)<(C.size:Int):=by omega
 have d1:(3:Int)<=(C.size:Int):=by omega
 have d2:3<=C.size:=by omega
 have iw:=Zh (3:Int) (by omega)
 have d3:¬((C.size:Int)<3):=by omega
 have e0:E.size=3:=by rw [<-hE];rfl
 have e1:∀h:2<E.size,E[2]'h=c:=by subst hE;exact fun _=>rfl
 have HT:=Za (show T.data.toList=[42] by rw [<-hT])
 rw [hE] at he
 rw [hC]
 clear h2 h3 h4 hC hE hT c0
 go_enter Tryz.func202,Tryz.ntmps202
 go_wp2_with (first
  | (go_at_call 210;((with_reducible refine (HV.out _).mono ?_);rintro e w1 ⟨rfl,aa⟩;rw [aa])))
 go_step3
 go_wp2_with fail
 go_loopw [9] (fun i wr=>i = .int .i64 2/\wr=w) (fun _ _=>0)
 case atStart=>exact ⟨rfl,rfl⟩
 case round =>
  obtain ⟨rfl,ab⟩:=hrel
  rw [ab]
  clear ab
  go_wp2_with fail
  go_step3
  go_wp2_with fail
  go_region_held3 (fun _=>True) (trivial) (fail)
  all_goals (go_wp2_with fail;(try clear he);(try clear c1);(try clear q2);(try clear q3);(try clear q0);(try clear q1);(try clear h1);go_region_held3 (fun _=>True) (trivial) ((go_at_call 199;((with_reducible refine (Tryz.strings_IndexByte T (c.toNat:Int) _).mono ?_);rintro e w1 ⟨rfl,aa⟩;rw [aa,HT.out,HI.out]))))
  all_goals (go_wp2_with fail;(refine (show bodyPost Tryz.prog Tryz.f202 (fun e w'=>e = .returned (.int .i64 (-1))/\Ext w w') Exit.ret _ _ from ?_));go_ret;exact ⟨rfl,zx⟩)
theorem zpd (r:Nat) (h1:128<=r) (h2:r<=1114111) (h3:r<55296∨57344<=r) (h4:r≠65533) (a b c d:UInt8) (hb:128<=d.toNat) (he:Utf8.encode (r:Int)=⟨#[a,b,c,d]⟩) (w:World) :
  Calls Tryz.prog 202 #[.string ⟨#[32,40,41,42]⟩,.int .i32 (r:Int)] w fun e w'=>e = .returned (.int .i64 (-1))/\Ext w w':=by
 have q0:(0:Int)<=(r:Int):=by omega
 have q1:¬((r:Int)<128):=by omega
 have q2:((r:Int)==65533)=false:=by rw [Ze];omega
 have q3:((42:Int) != (d.toNat:Int))=true:=by simp;omega
 have HI:=Za (zg3 (l:=[]) (by simp) hb)
 have HV:=Za (fun w=>zcR r h2 h3 w)
 obtain ⟨C,hC⟩:∃C:ByteArray,(⟨#[32,40,41,42]⟩:ByteArray)=C:=⟨_,rfl⟩
 obtain ⟨E,hE⟩:∃E:ByteArray,(⟨#[a,b,c,d]⟩:ByteArray)=E:=⟨_,rfl⟩
 obtain ⟨T,hT⟩:∃T:ByteArray,(⟨#[]⟩:ByteArray)=T:=⟨_,rfl⟩
 have c0:C.size=4:=by rw [<-hC];rfl
 have c1:∀h:3<C.size,C[3]'h=42:=by subst hC;exact fun _=>rfl
 have c2:C.extract 4 C.size=T:=by rw [<-hC,<-hT];rfl
 have d0:(3:Int)<(C.size:Int):=by omega
 have d1:(4:Int)<=(C.size:Int):=by omega
 have d2:4<=C.size:=by omega
 have iw:=Zh (4:Int) (by omega)
 have d3:¬((C.size:Int)<4):=by omega
 have e0:E.size=4:=by rw [<-hE];rfl
 have e1:∀h:3<E.size,E[3]'h=d:=by subst hE;exact fun _=>rfl
 have HT:=Za (show T.data.toList=[] by rw [<-hT])
 rw [hE] at he
 rw [hC]
 clear h2 h3 h4 hC hE hT c0
 go_enter Tryz.func202,Tryz.ntmps202
 go_wp2_with (first
  | (go_at_call 210;((with_reducible refine (HV.out _).mono ?_);rintro e w1 ⟨rfl,aa⟩;rw [aa])))
 go_step3
 go_wp2_with fail
 go_loopw [9] (fun i wr=>i = .int .i64 3/\wr=w) (fun _ _=>0)
 case atStart=>exact ⟨rfl,rfl⟩
 case round =>
  obtain ⟨rfl,ab⟩:=hrel
  rw [ab]
  clear ab
  go_wp2_with fail
  go_step3
  go_wp2_with fail
  go_region_held3 (fun _=>True) (trivial) (fail)
  all_goals (go_wp2_with fail;(try clear he);(try clear c1);(try clear q2);(try clear q3);(try clear q0);(try clear q1);(try clear h1);go_region_held3 (fun _=>True) (trivial) ((go_at_call 199;((with_reducible refine (Tryz.strings_IndexByte T (d.toNat:Int) _).mono ?_);rintro e w1 ⟨rfl,aa⟩;rw [aa,HT.out,HI.out]))))
  all_goals (go_wp2_with fail;(refine (show bodyPost Tryz.prog Tryz.f202 (fun e w'=>e = .returned (.int .i64 (-1))/\Ext w w') Exit.ret _ _ from ?_));go_ret;exact ⟨rfl,zx⟩)
theorem zk4 (r:Nat) (h1:128<=r) (h2:r<=1114111) (h3:r<55296∨57344<=r) (w:World) :
  Calls Tryz.prog 202 #[.string ⟨#[32,40,41,42]⟩,.int .i32 (r:Int)] w fun e w'=>e = .returned (.int .i64 (-1))/\Ext w w':=by
 by_cases h4:r=65533
 ·subst h4
  exact zjc _ rfl w
 ·obtain ⟨n,l,he,hl,n1,n3,hb⟩:=zlS r h1 h2 h3
  match l,hl,n1,n3 with
  | [a,b],_,_,_=>exact zpb r h1 h2 h3 h4 a b (hb b (by simp)) he w
  | [a,b,c],_,_,_=>exact zpc r h1 h2 h3 h4 a b c (hb c (by simp)) he w
  | [a,b,c,d],_,_,_=>exact zpd r h1 h2 h3 h4 a b c d (hb d (by simp)) he w
  | [],h,_,_=>exact absurd h (by simp)
  | [a],h,k,_=>exact absurd h (by simp;omega)
  | a::b::c::d::e::l',h,_,k=>exact absurd h (by simp;omega)
theorem zlA {s:List UInt8} {i k:Nat} (h:Lib.NoAny s [32,40,41,42] i) (hs:∀(j:Nat) x,i<=j->j<i+k->s[j]?=some x->128<=x.toNat):Lib.NoAny s [32,40,41,42] (i+k):=by
 intro j b hj hb
 by_cases hji:j<i
 ·exact h j b hji hb
 ·have h9:=hs j b (by omega) hj hb
  cases hc:([32,40,41,42]:List UInt8).contains b with
  | false=>rfl
  | true =>
   have h8:=List.contains_iff_mem.1 hc
   simp only [ZI,List.not_mem_nil,or_false] at h8
   rcases h8 with rfl | rfl | rfl | rfl <;> exact absurd h9 (by decide)
theorem zj5 (s:ByteArray) (h8:s.size<=8) (w:World) :
  Calls Tryz.prog 195 #[.string s,.string ⟨#[32,40,41,42]⟩] w fun e w'=>e = .returned (.int .i64 (Lib.indexAny s.data.toList [32,40,41,42]))/\Ext w w':=by
 have ap:decide ((8:Int)<(s.size:Int))=false:=ZF (by omega)
 obtain ⟨C,hC⟩:∃C:ByteArray,(⟨#[32,40,41,42]⟩:ByteArray)=C:=⟨_,rfl⟩
 have hcz:C.size=4:=by rw [<-hC];rfl
 have ak:C.data.toList=[32,40,41,42]:=by rw [<-hC]
 have hemp:C.toList.isEmpty=false:=by rw [Lib.toList_data,<-hC];rfl
 have HH:=Za (fun (r:Nat) (w':World) (h1:128<=r) (h2:r<=1114111) (h3:r<55296∨57344<=r)=>zk4 r h1 h2 h3 w')
 rw [hC] at HH ⊢
 rw [<-ak]
 have an:=Za ak
 have hn1:((C.size:Int)==1)=false:=Ze.2 (by omega)
 have hn0:(0:Int)<(C.size:Int):=by omega
 clear hC ak
 go_enter Tryz.func195,Tryz.ntmps195
 go_wp2_with (first
  | (go_at_call 203;((with_reducible refine (Tryz.strings_shouldUseASCIISet _ _).mono ?_);rintro e w1 ⟨rfl,aj⟩;rw [aj,ap])))
 go_loopg [9,10] s.size (fun g _ _ wx=>∃i:Nat,i+g=s.size/\wx.heap[w.heap.size]?=some (.stringIter s i)/\Below w.heap.size w wx/\Lib.NoAny s.data.toList C.data.toList i)
 case atStart=>exact ⟨0,by omega,World.iter_heap w s 0,(Below.refl _ w).alloc (Zg _) _,Lib.NoAny.zero _ _⟩
 case round =>
  obtain ⟨i,hig,ah,ae,am⟩:=hrel
  have HN:=Za am
  have HB:=Za ae
  clear am
  by_cases hi:i<s.size
  ·obtain ⟨x,hx⟩:∃x:UInt8,s[i]'hi=x:=⟨_,rfl⟩
   have al:s.data.toList[i]?=some x:=by rw [<-hx];exact Lib.data_getElem? s i hi
   by_cases hx128:x.toNat<128
   ·have af:=fun ty=>Lib.run_next_ascii_at (P:=Tryz.prog) wr w.heap.size s i ty ah hi (by rw [hx];exact hx128)
    rw [hx] at af
    have aa:=Lib.iterAt_heap wr w.heap.size s i (i+1) ah
    have ab:=Lib.below_iterAt ae (k:=w.heap.size) (Zg _) s (i+1)
    obtain ⟨W,ag⟩:∃W,wr.iterAt w.heap.size s (i+1)=W:=⟨_,rfl⟩
    rw [ag] at af aa ab
    have H2:=Za (And.intro aa ab)
    have Hx:=Za al
    have ac:=Lib.contains_iff_indexByte C.data.toList x
    have ad:((x.toNat:Int)).toNat.toUInt8=x:=by simp
    have HK:=Za (fun w':World=>Tryz.strings_IndexRune_ascii C (x.toNat:Int) w' (by omega) (by omega))
    clear al hx ag aa ab ae
    cases hin:C.data.toList.contains x with
    | false =>
     rw [hin] at ac
     have hlt:¬((0:Int)<=Lib.indexByte C.data.toList x):=of_decide_eq_false ac.symm
     have HI:=Za hin
     clear ac hin
     go_wp2_with (first
      | (go_at_call 202;((with_reducible refine (HK.out _).mono ?_);rintro e w1 ⟨rfl,aj⟩;rw [aj,ad])))
     go_roundg (s.size-(i+1))
     case measure=>omega
     case rel=>exact ⟨i+1,by omega,H2.out.1,H2.out.2,HN.out.succ Hx.out HI.out⟩
    | true =>
     rw [hin] at ac
     have hge:(0:Int)<=Lib.indexByte C.data.toList x:=of_decide_eq_true ac.symm
     have HI:=Za hin
     clear ac hin
     go_wp2_with (first
      | (go_at_call 202;((with_reducible refine (HK.out _).mono ?_);rintro e w1 ⟨rfl,aj⟩;rw [aj,ad])))
     go_ret
     exact ⟨by rw [Lib.indexAny_hit HN.out Hx.out HI.out];rfl,H2.out.2⟩
   ·obtain ⟨d1,d2,d3,d4,d5,d6⟩:=zlQ s i hi (by rw [hx];omega)
    have af:∀ty,(Instr.next (.pointer (some ⟨w.heap.size,0,none⟩)) true ty).run Tryz.prog wr=_:=fun ty=>Lib.run_next_any_at wr w.heap.size s i ty ah hi
    obtain ⟨R,hR⟩:∃R,(Utf8.decode s i).1=R:=⟨_,rfl⟩
    obtain ⟨K,hK⟩:∃K,(Utf8.decode s i).2=K:=⟨_,rfl⟩
    rw [hR] at d1 d2 d3
    rw [hK] at d4 d5 d6
    rw [hR,hK] at af
    have aa:=Lib.iterAt_heap wr w.heap.size s i (i+K) ah
    have ab:=Lib.below_iterAt ae (k:=w.heap.size) (Zg _) s (i+K)
    obtain ⟨W,ag⟩:∃W,wr.iterAt w.heap.size s (i+K)=W:=⟨_,rfl⟩
    rw [ag] at af aa ab
    have ai:w.heap.size<W.heap.size:=(Zm.1 aa).1
    have H2:=Za (And.intro ai (And.intro aa ab))
    have HK:=Za (fun w':World=>HH.out R w' d1 d2 d3)
    have ao:=Za (show Lib.NoAny s.data.toList C.data.toList (i+K) from by
     have h9:=HN.out
     rw [an.out] at h9 ⊢
     exact zlA h9 d6)
    clear hR hK ag aa ab ae d1 d2 d3 d6 hx al ai
    go_wp2_with (first
     | (go_at_call 202;((with_reducible refine (HK.out _).mono ?_);rintro e w1 ⟨rfl,hq1⟩)))
    go_roundg (s.size-(i+K))
    case measure=>omega
    case rel=>exact ⟨i+K,by omega,(hq1.block _ H2.out.1).trans H2.out.2.1,H2.out.2.2.trans (hq1.mono H2.out.2.2.size),ao.out⟩
  ·obtain rfl:i=s.size:=by omega
   have af:∀ty,(Instr.next (.pointer (some ⟨w.heap.size,0,none⟩)) true ty).run Tryz.prog wr=_:=fun ty=>Lib.run_next_end_at wr w.heap.size s s.size ty ah hi
   clear ae
   go_wp2_with fail
   go_ret
   exact ⟨by rw [Lib.indexAny_none (by rw [<-Lib.size_eq];exact HN.out)];rfl,HB.out⟩
theorem zl4 (s:List UInt8) (hl:s.length<=1000000) (w:World) :
  Calls Tryz.prog 195 #[.string ⟨s.toArray⟩,.string ⟨#[32,40,41,42]⟩] w fun e w'=>e = .returned (.int .i64 (Lib.indexAny s [32,40,41,42]))/\Ext w w':=by
 by_cases h8:s.length<=8
 ·have h:=zj5 ⟨s.toArray⟩ (by rw [zaK];exact h8) w
  rw [zaG] at h
  exact h
 ·have h:=Tryz.strings_IndexAny_long (zero_of_info (n:=256) (by kernel_rfl)).1 ⟨s.toArray⟩ ⟨#[32,40,41,42]⟩ w (by decide) (by rw [zaK];omega) (by rw [zaK];omega) (by decide) (fun j b hb=>by
   have h9:b∈([32,40,41,42]:List UInt8):=Z7 hb
   simp at h9
   rcases h9 with rfl | rfl | rfl | rfl <;> decide)
  rw [zaG,show (⟨#[32,40,41,42]⟩:ByteArray).data.toList=[32,40,41,42] from rfl] at h
  exact h.mono fun e w' h9=>⟨h9.1,h9.2 ▸ ((Zf _).alloc _).alloc _⟩
end Go.Proofs.YtkneghkbgingdaaGreatDoor
/- The reader of terms: its state;take and until. -/
namespace Go.Proofs.YtkneghkbgingdaaGreatDoor
set_option maxRecDepth 100000
open Go.RowKit Go.ChangeShapes Go.WideShapes Go.Joins
def atoiO (l:List UInt8):Option Int:=match Lib.atoiAll l with
 | .ok v=>some v
 | _=>none
theorem zep {l:List UInt8} {v:Int} (h:atoiO l=some v) (hl:l.length<=1000000) (w:World) :
  Calls Tryz.prog 114 #[.string ⟨l.toArray⟩] w fun e w'=>e = .returned (.tuple #[.int .i64 v,.nilIface])/\Ext w w':=by
 have h1:Lib.atoiAll l = .ok v:=by
  unfold atoiO at h
  split at h
  ·rename_i v' h2
   cases h
   exact h2
  ·cases h
 refine (Tryz.strconv_Atoi_ok ⟨l.toArray⟩ (by rw [zaK];omega) v (by rw [zaG];exact h1) w).mono ?_
 rintro e w' ⟨rfl,h2⟩
 refine ⟨rfl,?_⟩
 rcases h2 with rfl | ⟨t,rfl⟩
 ·exact Zf _
 ·exact Lib.bytesWorld_below _ _ _
theorem zgt {l:List UInt8} (h:atoiO l=none) (hl:l.length<=1000000) (w:World) (hg:Glob w) :
  Calls Tryz.prog 114 #[.string ⟨l.toArray⟩] w fun e w'=>∃(v:Int) (te:TypeId) (p:Addr),e = .returned (.tuple #[.int .i64 v,.iface te (.pointer (some p))])/\Ext w w':=by
 cases h1:Lib.atoiAll l
 ·unfold atoiO at h
  rw [h1] at h
  cases h
 ·obtain ⟨tp,p,hv⟩:=hg.syn
  refine (Any.strconv_Atoi_syntax_var Tryz.laysC172 ⟨l.toArray⟩ (by rw [zaK];omega) (by rw [zaG];exact h1) tp p w hv).mono ?_
  rintro e w' ⟨N,rfl,_,_,hb⟩
  exact ⟨_,_,_,rfl,hb⟩
 ·obtain ⟨tp,p,hv⟩:=hg.rng
  refine (Tryz.strconv_Atoi_range_var ⟨l.toArray⟩ (by rw [zaK];omega) (by rw [zaG];exact h1) tp p w hv).mono ?_
  rintro e w' ⟨N,rfl,_,_,hb⟩
  exact ⟨_,_,_,rfl,hb⟩
def atOk (k:Nat):Bool:=decide (atoiO (decD k)=some (k:Int))
theorem zoG:(List.range 201).all atOk=true:=by decide +kernel
theorem zhh:∀k:Nat,2<=k->k<=200->atoiO (decD k)=some (k:Int):=fun k _ h2=>by
 have h1:=Zq.1 zoG k (ZP.2 (by omega))
 simpa [atOk] using h1
def Asc (_:List UInt8):Prop:=True
theorem Asc.suf {s r:List UInt8} (_:Asc s) (_:r <:+ s):Asc r:=trivial
theorem zoy (x:UInt8):([32,40,41,42]:List UInt8).contains x=isStop x:=by
 unfold isStop
 simp only [List.contains_cons,List.contains_nil,Bool.or_false,Bool.or_assoc]
theorem zbt:∀s:List UInt8,(untilS s).1++(untilS s).2=s:=by
 intro s
 induction s with
 | nil=>rfl
 | cons x l ih =>
  rw [untilS]
  split
  ·rfl
  ·simp [ih]
theorem zaR (s:List UInt8):(untilS s).2 <:+ s:=⟨(untilS s).1,zbt s⟩
theorem zm3 (s:List UInt8):Lib.indexAny s [32,40,41,42]=if (untilS s).2=[] then -1 else ((untilS s).1.length:Int):=by
 induction s with
 | nil=>rfl
 | cons x l ih =>
  rw [Lib.indexAny,zoy,untilS]
  by_cases h:isStop x=true
  ·rw [if_pos h,if_pos h]
   simp
  ·rw [if_neg h,if_neg h,ih]
   by_cases h2:(untilS l).2=[]
   ·simp [h2]
   ·rw [if_neg h2]
    simp only [h2,if_false]
    have:¬(((untilS l).1.length:Int) == -1)=true:=by simp
    rw [if_neg this]
    simp
def RdAt (w:World) (g:Nat) (s:List UInt8) (d:Int):Prop:=w.heap[g]?=some (.cells #[.string ⟨s.toArray⟩,.int .i64 d] 206 (0,0))
theorem RdAt.ext {w w':World} {g:Nat} {s:List UInt8} {d:Int} (h:RdAt w g s d) (hb:Ext w w'):RdAt w' g s d:=by
 unfold RdAt
 rw [hb.block g (Zm.1 h).1]
 exact h
theorem RdAt.lt {w:World} {g:Nat} {s:List UInt8} {d:Int} (h:RdAt w g s d):g<w.heap.size:=(Zm.1 h).1
theorem RdAt.facts {w:World} {g:Nat} {s:List UInt8} {d:Int} (h:RdAt w g s d):w.cell? ⟨g,0,none⟩=some (.string ⟨s.toArray⟩)/\w.cell? ⟨g,1,none⟩=some (.int .i64 d)/\w.frozen? ⟨g,0,none⟩=false/\w.frozen? ⟨g,1,none⟩=false/\g<w.heap.size :=
 ⟨by rw [cell_of_row w g _ _ _ (0,0) h];rfl,by rw [cell_of_row w g _ _ _ (0,0) h];rfl,frozen_of_row w g _ _ _ h,frozen_of_row w g _ _ _ h,h.lt⟩
theorem RdAt.set0 {w:World} {g:Nat} {s:List UInt8} {d:Int} (h:RdAt w g s d) (r:List UInt8):RdAt (w.setCell ⟨g,0,none⟩ (.string ⟨r.toArray⟩)) g r d:=heap_setCell_same w g 0 _ _ _ h
theorem RdAt.set1 {w:World} {g:Nat} {s:List UInt8} {d:Int} (h:RdAt w g s d) (e:Int):RdAt (w.setCell ⟨g,1,none⟩ (.int .i64 e)) g s e:=heap_setCell_same w g 1 _ _ _ h
def hitB (x:UInt8):List UInt8->Bool
 | []=>false
 | y::_=>y==x
def hitR (x:UInt8):List UInt8->List UInt8
 | []=>[]
 | y::r=>if y==x then r else y::r
def TakeR (g:Nat) (x:UInt8) (s:List UInt8) (d:Int) (w:World) (e:Ending) (w':World):Prop:=e = .returned (.bool (hitB x s))/\RdAt w' g (hitR x s) d/\But (some g) w w'
theorem zey (x:UInt8) (s:List UInt8):hitR x s <:+ s:=by
 cases s with
 | nil=>exact List.suffix_refl _
 | cons y r =>
  rw [hitR]
  split
  ·exact ⟨[y],rfl⟩
  ·exact List.suffix_refl _
theorem zde (x:UInt8) (c:Int) (hc:(x.toNat:Int)=c) (g:Nat) (s:List UInt8) (d:Int) (w:World) (h:RdAt w g s d) (hl:s.length<=100000) :
  Calls Tryz.prog 175 #[.pointer (some ⟨g,0,none⟩),.int .u8 c] w (TakeR g x s d w):=by
 have HR:=Za h
 obtain ⟨c0,c1,f0,f1,hz⟩:=h.facts
 clear h
 cases s with
 | nil =>
  go_enter Tryz.func175,Tryz.ntmps175
  go_wp2_with fail
  go_ret
  exact ⟨rfl,HR.out.ext zx,But.of_ext zx _⟩
 | cons y r =>
  have hn:((((y::r).length:Nat):Int)==0)=false:=by rw [Ze];simp;omega
  have hi:∀h:0<(y::r).length,(⟨(y::r).toArray⟩:ByteArray)[0]'(by rw [zaK];exact h)=y:=fun _=>rfl
  by_cases hx:y=x
  ·subst hx
   subst hc
   have HH:=Za (show hitB y (y::r)=true/\hitR y (y::r)=r by simp [hitB,hitR])
   have hex:(⟨(y::r).toArray⟩:ByteArray).extract 1 (r.length+1)=⟨r.toArray⟩:=zai (y::r) 1 (r.length+1) (by simp)
   go_enter Tryz.func175,Tryz.ntmps175
   go_wp2_with fail
   go_ret
   exact ⟨by rw [HH.out.1];rfl,by rw [HH.out.2];exact HR.out.set0 r,(But.refl _ _).own rfl _⟩
  ·have HH:=Za (show hitB x (y::r)=false/\hitR x (y::r)=y::r by simp [hitB,hitR,hx])
   have hne:(((y.toNat:Nat):Int) != c)=true:=by
    rw [<-hc]
    simp
    intro e
    apply hx
    exact ZQ.1 (by omega)
   go_enter Tryz.func175,Tryz.ntmps175
   go_wp2_with fail
   go_ret
   exact ⟨by rw [HH.out.1];rfl,by rw [HH.out.2];exact HR.out,But.refl _ _⟩
theorem znX (s:List UInt8) (_:Asc s) (hl:s.length<=100000) (w:World) :
  Calls Tryz.prog 195 #[.string ⟨s.toArray⟩,.string ⟨#[32,40,41,42]⟩] w fun e w'=>e = .returned (.int .i64 (if (untilS s).2=[] then -1 else ((untilS s).1.length:Int)))/\Ext w w':=by
 have h:=zl4 s (by omega) w
 rw [zm3] at h
 exact h
def UntilR (g:Nat) (s:List UInt8) (d:Int) (w:World) (e:Ending) (w':World):Prop:=e = .returned (.string ⟨(untilS s).1.toArray⟩)/\RdAt w' g (untilS s).2 d/\But (some g) w w'
theorem zaQ (g:Nat) (s:List UInt8) (d:Int) (w:World) (h:RdAt w g s d) (ha:Asc s) (hl:s.length<=100000) :
  Calls Tryz.prog 189 #[.pointer (some ⟨g,0,none⟩),.string ⟨#[32,40,41,42]⟩] w (UntilR g s d w):=by
 have HR:=Za h
 obtain ⟨c0,c1,f0,f1,hz⟩:=h.facts
 have HI:=Za (fun (w':World)=>znX s ha hl w')
 clear h ha
 have aa:=zbt s
 obtain ⟨X,hX⟩:∃X,(untilS s).1=X:=⟨_,rfl⟩
 obtain ⟨Y,hY⟩:∃Y,(untilS s).2=Y:=⟨_,rfl⟩
 rw [hX,hY] at aa
 by_cases h0:Y=[]
 ·subst h0
  rw [ZC] at aa
  subst aa
  have ab:=Za (And.intro hX hY)
  have ac:=Za (fun (w':World)=>(show Calls Tryz.prog 195 #[.string ⟨X.toArray⟩,.string ⟨#[32,40,41,42]⟩] w' fun e w''=>e = .returned (.int .i64 (-1))/\Ext w' w'' from by
   have h9:=HI.out w'
   rw [hY,if_pos rfl] at h9
   exact h9))
  have e0:(⟨X.toArray⟩:ByteArray).extract 0 X.length=⟨X.toArray⟩:=by rw [zar,ZE (Zg _)]
  have e1:(⟨X.toArray⟩:ByteArray).extract X.length X.length=⟨([]:List UInt8).toArray⟩:=by rw [zai X X.length X.length (Zg _),Z3 (Zg _)]
  clear hX hY HI
  go_enter Tryz.func189,Tryz.ntmps189
  go_wp2_with (first
   | (go_at_call 195;((with_reducible refine (ac.out _).mono ?_);rintro e w1 ⟨rfl,hq1⟩;obtain ⟨x0,x1,x2,x3,x4⟩:=(HR.out.ext hq1).facts;have HQ:=Za hq1)))
  go_ret
  exact ⟨by rw [ab.out.1];rfl,by rw [ab.out.2];exact (HR.out.ext HQ.out).set0 [],(But.of_ext HQ.out _).own rfl _⟩
 ·have hlen:s.length=X.length+Y.length:=by rw [<-aa,Zb]
  have ab:=Za (And.intro hX hY)
  have ac:=Za (fun (w':World)=>(show Calls Tryz.prog 195 #[.string ⟨s.toArray⟩,.string ⟨#[32,40,41,42]⟩] w' fun e w''=>e = .returned (.int .i64 (X.length:Int))/\Ext w' w'' from by
   have h9:=HI.out w'
   rw [hY,if_neg h0,hX] at h9
   exact h9))
  have e0:(⟨s.toArray⟩:ByteArray).extract 0 X.length=⟨X.toArray⟩:=by rw [zar,<-aa,List.take_left]
  have e1:(⟨s.toArray⟩:ByteArray).extract X.length (X.length+Y.length)=⟨Y.toArray⟩:=by rw [zai s X.length (X.length+Y.length) (by omega),<-aa,List.drop_left]
  have b1:(X.length:Int)<=(s.length:Int):=by omega
  have b2:(0:Int)<=(X.length:Int):=by omega
  have b3:¬((X.length:Int)<0):=by omega
  clear hX hY HI aa h0
  go_enter Tryz.func189,Tryz.ntmps189
  go_wp2_with (first
   | (go_at_call 195;((with_reducible refine (ac.out _).mono ?_);rintro e w1 ⟨rfl,hq1⟩;obtain ⟨x0,x1,x2,x3,x4⟩:=(HR.out.ext hq1).facts;have HQ:=Za hq1)))
  go_ret
  exact ⟨by rw [ab.out.1];rfl,by rw [ab.out.2];exact (HR.out.ext HQ.out).set0 Y,(But.of_ext HQ.out _).own rfl _⟩
end Go.Proofs.YtkneghkbgingdaaGreatDoor
/- The library's functions that the readers of patterns call;number. -/
namespace Go.Proofs.YtkneghkbgingdaaGreatDoor
set_option maxRecDepth 100000
open Go.RowKit
theorem zfi:∀k:Nat,k<=100000->atoiO (decD k)=some (k:Int):=by
 intro k h
 have h1:=zfn (n:=k) (by omega)
 have h2:(decD k).all isDg=true:=Zq.2 (zes k)
 have h3:decD k≠[]:=by
  intro e
  have h9:=zeF (n:=k) (by omega)
  rw [e] at h9
  simp [num7] at h9
 unfold atoiO
 rw [Lib.atoiAll_short _ (by omega),zdl h2 h3,zhs (by omega)]
 rfl
def cutB (c:UInt8):List UInt8->List UInt8×List UInt8×Bool
 | []=>([],[],false)
 | x::l=>if x=c then ([],l,true) else (x::(cutB c l).1,(cutB c l).2.1,(cutB c l).2.2)
theorem znd (c:UInt8):∀l:List UInt8,(cutB c l).1=(cutA c l).1/\(cutB c l).2.1=(cutA c l).2:=by
 intro l
 induction l with
 | nil=>exact ⟨rfl,rfl⟩
 | cons x l ih =>
  rw [cutB,cutA]
  by_cases h:x=c
  ·rw [if_pos h,if_pos h]
   exact ⟨rfl,rfl⟩
  ·rw [if_neg h,if_neg h,ih.1,ih.2]
   exact ⟨rfl,rfl⟩
theorem zlL (c:UInt8):∀(l:List UInt8),Lib.cut l [c]=cutB c l:=by
 intro l
 rw [Lib.cut]
 induction l with
 | nil=>rfl
 | cons x l ih =>
  rw [zbA,cutB]
  by_cases hx:x=c
  ·subst hx
   simp
  ·have aa:¬c=x:=fun e=>hx e.symm
   rw [if_neg aa,if_neg hx]
   rw [<-ih]
   rcases Lib.index_spec l [c] with ⟨hm,_⟩ | ⟨i,hm,_⟩
   ·rw [hm];rfl
   ·rw [hm]
    have h1:((i:Int) == -1)=false:=by rw [Ze];omega
    have h2:¬((i:Int)+1<0):=by omega
    simp [h1]
    omega
theorem zhp (c:UInt8):∀l:List UInt8,(cutA c l).1.length<=l.length/\(cutA c l).2.length<=l.length:=by
 intro l
 induction l with
 | nil=>exact ⟨Zg _,Zg _⟩
 | cons x l ih =>
  rw [cutA]
  split
  ·simp
  ·simp only [Zk]
   omega
theorem zho (c:UInt8) (l:List UInt8) (hl:l.length<=1000000) (w:World) (hg:Glob w) :
  Calls Tryz.prog 45 #[.string ⟨l.toArray⟩,.string ⟨#[c]⟩] w fun e w'=>∃b,e = .returned (.tuple #[.string ⟨(cutA c l).1.toArray⟩,.string ⟨(cutA c l).2.toArray⟩,.bool b])/\Ext w w':=by
 obtain ⟨m,hm⟩:=hg.max
 refine (Tryz.strings_Cut ⟨l.toArray⟩ ⟨#[c]⟩ m w (by rw [zaK];omega) hm).mono ?_
 rintro e w' ⟨rfl,n,rfl⟩
 refine ⟨(cutB c l).2.2,?_,(Zf _).drewN n⟩
 have h:=zlL c l
 rw [show (⟨l.toArray⟩:ByteArray).data.toList=l from zaG l,show (⟨#[c]⟩:ByteArray).data.toList=[c] from rfl,h,(znd c l).1,(znd c l).2]
theorem zdX (l:List UInt8) (w:World) :
  Calls Tryz.prog 78 #[.string ⟨l.toArray⟩,.string ⟨#[97,103,97,105,110,32]⟩] w fun e w'=>e = .returned (.tuple #[.string ⟨(if l.take 6=agnB then l.drop 6 else l).toArray⟩,.bool (decide (l.take 6=agnB))])/\w'=w:=by
 refine (Tryz.strings_CutPrefix ⟨l.toArray⟩ ⟨#[97,103,97,105,110,32]⟩ w).mono ?_
 rintro e w' ⟨rfl,rfl⟩
 refine ⟨?_,rfl⟩
 have e1:(⟨l.toArray⟩:ByteArray).data.toList=l:=zaG l
 have e2:(⟨#[97,103,97,105,110,32]⟩:ByteArray).data.toList=agnB:=rfl
 have e3:Lib.hasPrefix l agnB=decide (l.take 6=agnB):=by
  rw [Lib.hasPrefix,Bool.eq_iff_iff,List.isPrefixOf_iff_prefix,List.prefix_iff_eq_take,ZG]
  exact eq_comm
 rw [e1,e2,Lib.trimPrefix,e3]
 by_cases h:l.take 6=agnB
 ·rw [ZW h,if_pos rfl,if_pos h]
  rfl
 ·rw [ZF h,if_neg (by decide),if_neg h]
theorem zg7 (l:List UInt8) (hl:l.length<=1000000) (w:World) :
  Calls Tryz.prog 51 #[.string ⟨l.toArray⟩,.string ⟨#[10]⟩] w fun e w'=>e = .returned (.string ⟨(if l.getLast?=some 10 then l.dropLast else l).toArray⟩)/\w'=w:=by
 refine (Tryz.strings_TrimSuffix ⟨l.toArray⟩ ⟨#[10]⟩ w (by rw [zaK];omega)).mono ?_
 rintro e w' ⟨rfl,rfl⟩
 refine ⟨?_,rfl⟩
 have e1:(⟨l.toArray⟩:ByteArray).data.toList=l:=zaG l
 have e2:(⟨#[10]⟩:ByteArray).data.toList=[10]:=rfl
 have e3:Lib.hasSuffix l [10]=decide (l.getLast?=some 10):=by
  rw [Lib.hasSuffix,Bool.eq_iff_iff,List.isSuffixOf_iff_suffix,ZG]
  constructor
  ·rintro ⟨t,rfl⟩
   simp
  ·intro h
   obtain ⟨ys,e⟩:=List.getLast?_eq_some_iff.1 h
   exact ⟨ys,e.symm⟩
 rw [e1,e2,Lib.trimSuffix,e3]
 by_cases h:l.getLast?=some 10
 ·rw [ZW h,if_pos rfl,if_pos h,List.dropLast_eq_take]
  rfl
 ·rw [ZF h,if_neg (by decide),if_neg h]
theorem zaB (l:List UInt8) (hl:l.length<=1000000) (w:World) (hg:Glob w) :
  Calls Tryz.prog 79 #[.string ⟨l.toArray⟩] w fun e w'=>e = .returned (.int .i64 (numP atoiO l))/\Ext w w':=by
 cases ha:atoiO l with
 | none =>
  have HN:=Za (show numP atoiO l = -1 by rw [numP,ha])
  have aa:=Za (fun (w':World) (hg':Glob w')=>zgt ha hl w' hg')
  have HG:=Za hg
  clear ha hg hl
  go_enter Tryz.func79,Tryz.ntmps79
  go_wp2_with (first
   | (go_at_call 114;(((with_reducible refine (aa.out _ (HG.out.ext zx)).mono ?_);rintro e w3 ⟨v,te,pe,rfl,ab⟩))))
  go_ret
  exact ⟨by rw [HN.out];rfl,zx⟩
 | some v =>
  have aa:=Za (fun (w':World)=>zep ha hl w')
  by_cases hv:v<0
  ·have HN:=Za (show numP atoiO l = -1 by rw [numP,ha];simp only;rw [if_pos hv])
   clear ha hg hl
   go_enter Tryz.func79,Tryz.ntmps79
   go_wp2_with (first
    | (go_at_call 114;(((with_reducible refine (aa.out _).mono ?_);rintro e w3 ⟨rfl,ab⟩))))
   go_ret
   exact ⟨by rw [HN.out];rfl,zx⟩
  ·have HN:=Za (show numP atoiO l=v by rw [numP,ha];simp only;rw [if_neg hv])
   clear ha hg hl
   go_enter Tryz.func79,Tryz.ntmps79
   go_wp2_with (first
    | (go_at_call 114;(((with_reducible refine (aa.out _).mono ?_);rintro e w3 ⟨rfl,ab⟩))))
   go_ret
   exact ⟨by rw [HN.out];rfl,zx⟩
end Go.Proofs.YtkneghkbgingdaaGreatDoor
