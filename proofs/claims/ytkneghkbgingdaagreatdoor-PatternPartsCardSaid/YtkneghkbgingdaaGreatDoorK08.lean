/- The walks of expand and Cells of terms. -/
import Derived.Test.YtkneghkbgingdaaGreatDoorK07
import Derived.ProofKit
set_option maxHeartbeats 16000000
namespace Go.Proofs.YtkneghkbgingdaaGreatDoor
set_option maxRecDepth 100000
open Go.RowKit Go.ChangeShapes Go.WideShapes Go.Joins
def ownC (c:St) (g:Tms):List St:=if g.cnt=0 then [c] else g.cells
theorem zfZ (c:St):ownC c .nil=[c]:=rfl
theorem zfY (c:St) {g:Tms} (h:0<g.cnt):ownC c g=g.cells:=by rw [ownC,if_neg (by omega)]
theorem zeN (N:Int) (c:St) (g r:Tms):(Tms.cons N c g r).cells=rep N.toNat (ownC c g)++r.cells:=by
 by_cases h:g = .nil
 ·subst h
  rw [zaB,zfZ,zjo]
 ·rw [zbi _ _ _ _ h,ownC,if_neg (fun e=>h (zbd e))]
theorem zhk:∀(M:Nat),M≤5000→∀(t:Tms),t.size≤M→fineT t=true→t.cells.length≤200→∀(A:Option Addr) (n cap:Nat) (w:World),Tv w A n t →
  Calls Tryz.prog 116 #[.slice A n cap] w (StsR t.cells w):=by
 intro M
 induction M using Nat.strongRecOn with
 | ind M ih =>
  intro hM t ht hf hcl A n cap w hv
  have HI:=Za ih
  have HV:=Za hv
  have hnm:n≤5000:=by have h1:=hv.1;have h2:=zba t;omega
  have HF:=Za hf
  clear ih hv hf
  go_enter Tryz.func116,Tryz.ntmps116
  go_wp2_with fail
  go_loopw [3,9] (fun u i wr=>∃(V:Value) (k:Nat) (pre:List St) (rest:Tms),V=u∧i = .int .i64 k∧rest.cnt+k=n∧rest.size≤M∧pre.length+rest.cells.length≤200 ∧
   Hid (OwnV shSt wr w.heap.size 132 V pre.length pre∧pre++rest.cells=t.cells∧fineT rest=true∧Ext w wr∧(0<rest.cnt→∃b off,A=some ⟨b,off,none⟩∧b<w.heap.size∧TAt w rest b (off+k*6)))) (fun _ i _=>n-(intOf i).toNat)
  case atStart =>
   refine ⟨_,0,[],t,rfl,rfl,by have:=HV.out.1;omega,ht,by simpa using hcl,Za ⟨OwnV.nil _ _ _ _,rfl,HF.out,Zd _,fun h=>?_⟩⟩
   obtain ⟨h1,h2,h3⟩:=HV.out
   obtain ⟨b,off,e,hb,hc⟩:=h3 (by omega)
   exact ⟨b,off,e,hb,by simpa using hc⟩
  case round =>
   obtain ⟨V,k,pre,rest,rfl,rfl,hcnt,hrs,hpl,HH⟩:=hrel
   by_cases hlt:0<rest.cnt
   ·obtain ⟨N,c,g,r,rfl⟩:=zb8 hlt
    obtain ⟨b,off,rfl,hb1,hc⟩:=HH.out.2.2.2.2 hlt
    obtain ⟨A',n',cap',d0,d1,d2,d3,d4,d5,hkk,hg,hr⟩:=hc.head
    have hxr:=HH.out.2.2.2.1
    obtain ⟨⟨hN0,hN1⟩,hfg,hfr⟩:=zca HH.out.2.2.1
    have HFR:=Za hfr
    simp only [Tms.cnt,Tms.size] at hcnt hrs
    have hkn:k<n:=by omega
    have hz:b<wr.heap.size:=Zt hb1 (Zr hxr)
    have HCS:=Za (zeN N c g r)
    have hcb:(rep N.toNat (ownC c g)).length+r.cells.length=(Tms.cons N c g r).cells.length:=by rw [HCS.out,Zh]
    rw [zb4] at hcb
    have hgcl:0<g.cnt→g.cells.length≤200:=fun h=>by
     rw [zfY c h] at hcb
     have:1*g.cells.length≤N.toNat*g.cells.length:=Nat.mul_le_mul_right _ (by omega)
     omega
    have hcall:=fun (h0:0<g.cnt) (w':World) (h:Ext w w')=>HI.out (M-1) (by omega) (by omega) g (by omega) hfg (hgcl h0) A' n' cap' w' (hg.ext h)
    have HC:=Za hcall
    have hgn:=Za hg.1
    have q0:(0:Int)≤(k:Int):=by omega
    have q1:(k:Int)<(n:Int):=by omega
    have HE0:=Za hxr
    have HCB:=Za hcb
    have HKK:=Za hkk
    obtain ⟨ck,cp,ca,cb⟩:=c
    simp only at d1 d2 d3 d4
    obtain ⟨wq,rfl⟩:∃wq:World,wq=wr:=⟨_,rfl⟩
    have fwd:∀(o:Nat) (u:Value),w.cell? ⟨b,o,none⟩=some u→wq.cell? ⟨b,o,none⟩=some u:=fun o u h=>(Zm (p:=⟨b,o,none⟩) hxr hb1).trans h
    have c0:=fwd _ _ d0
    have c1:=fwd _ _ d1
    have c2:=fwd _ _ d2
    have c3:=fwd _ _ d3
    have c4:=fwd _ _ d4
    have c5:=fwd _ _ d5
    have HBL:=Za (show ∀b,wq.heap.size≤b→some b≠V.ownBlock from fun b hb e=>by have:=(OwnV.blk HH.out.1 b e.symm).2;omega)
    clear hcall hc hxr hfr hfg hgcl hcb hkk fwd
    by_cases hn':0<n'
    ·have HOW:=Za (zfY ⟨ck,cp,ca,cb⟩ (g:=g) (by have:=hgn.out;omega))
     go_wp2_with (go_at_call 116;((with_reducible refine (HC.out (by have:=hgn.out;omega) _ (HE0.out.trans zx)).mono ?_);rintro e w1 ⟨A1,m1,cap1,rfl,hq1,hv1,hbl1, -⟩;obtain ⟨hf1,hf2,hf3⟩:=hq1.facts))
     have HXW:=Za (show Ext wq w1 from zx)
     have HOV:=Za (show VecX w1 V.ownBlock A1 m1 g.cells from ⟨hv1,fun h b off e=>HBL.out b (by have:=hbl1 h b off e;simp at this;omega)⟩)
     clear hv1 hq1 hbl1
     have HL1:=Za (HOV.out.1.len)
     have HB:=Za (show pre.length+N.toNat*m1+r.cells.length≤200 by have h1:=HCB.out;rw [HOW.out,HL1.out] at h1;omega)
     have HCS2:=Za (show (Tms.cons N ⟨ck,cp,ca,cb⟩ g r).cells=rep N.toNat g.cells++r.cells by rw [HCS.out,HOW.out])
     clear hpl
     go_loopw [3,25] (fun u j wi=>∃(V:Value) (q:Nat),V=u∧q≤N.toNat∧j = .int .i64 q∧Hid (OwnV shSt wi w.heap.size 132 V (pre.length+q*m1) (pre++rep q g.cells))∧Hid (VecX wi V.ownBlock A1 m1 g.cells∧Ext w wi)) (fun _ j _=>N.toNat-(intOf j).toNat)
     case atStart=>exact ⟨_,0,rfl,by omega,rfl,Za (by have:=(HH.out.1).ext HXW.out;simpa [rep] using this),Za ⟨HOV.out,HE0.out.trans HXW.out⟩⟩
     case round =>
      obtain ⟨V2,q,rfl,hq,rfl,hown,hexi⟩:=hrel
      have hx0:=hexi.out.2
      obtain ⟨hz1,hz2,hz3⟩:=hx0.facts
      by_cases hlq:q<N.toNat
      ·have qN:(q:Int)<N:=by omega
       have HKB:=Za (show pre.length+q*m1+m1≤1000000 by
        have h1:(q+1)*m1≤N.toNat*m1:=Nat.mul_le_mul_right _ (by omega)
        rw [Nat.add_mul,Nat.one_mul] at h1
        have:=HB.out
        omega)
       go_wp2_with (at_builtin;refine zab (S:=shSt) (w:=w) 73 132 (.agg #[.int .u8 0,.bool false,.int .i64 0,.int .i64 0]) 24 (by rfl) (by rfl) Tryz.underlying73 za7 (by rfl) (by omega) (by rfl) (by rfl) hown.out hx0 hexi.out.1.1 HKB.out ?_;intro v' w3 hown3 hext3 hgr3)
       go_roundw
       case rel =>
        refine ⟨v',q+1,rfl,by omega,by go_num,Za ?_,Za ⟨hexi.out.1.step hgr3.out.1 hgr3.out.2,hext3.out⟩⟩
        have e1:pre.length+(q+1)*m1=pre.length+q*m1+m1:=by rw [Nat.add_mul,Nat.one_mul];omega
        rw [e1,zg0,←ZJ]
        exact hown3
       case measure=>simp [intOf];omega
      ·obtain rfl:q=N.toNat:=by omega
       have qN:¬((N.toNat:Int)<N):=by omega
       go_wp2
       go_roundw
       case rel =>
        obtain ⟨e2,e3,e4,e5, -⟩:=HH.out
        refine ⟨V2,k+1,pre++rep N.toNat g.cells,r,rfl,by go_num,by omega,by omega,?_,Za ⟨?_,?_,HFR.out,hx0,fun h=>?_⟩⟩
        ·rw [Zh,zb4,HL1.out];have:=HB.out;omega
        ·rw [Zh,zb4,HL1.out]
         exact hown.out
        ·rw [←e3,HCS2.out,ZJ]
        ·refine ⟨b,off,rfl,hb1,?_⟩
         rw [show off+(k+1)*6=off+k*6+6 by omega]
         exact hr
       case measure=>simp [intOf];omega
    ·obtain rfl:=zbd (t:=g) (by have:=hgn.out;omega)
     obtain rfl:n'=0:=by omega
     have HOW:=Za (zfZ ⟨ck,cp,ca,cb⟩)
     go_wp2_with fail
     have HXW:=Za (show Ext wq ((wq.alloc (.cells #[.int .i64 N,.int .u8 ck,.bool cp,.int .i64 ca,.int .i64 cb,.slice A' 0 cap'] 134)).alloc (.cells #[.int .u8 ck,.bool cp,.int .i64 ca,.int .i64 cb] 132)) from zx)
     have HOV:=Za (show VecX ((wq.alloc (.cells #[.int .i64 N,.int .u8 ck,.bool cp,.int .i64 ca,.int .i64 cb,.slice A' 0 cap'] 134)).alloc (.cells #[.int .u8 ck,.bool cp,.int .i64 ca,.int .i64 cb] 132)) V.ownBlock (some ⟨(wq.heap.size+1),0,none⟩) 1 [⟨ck,cp,ca,cb⟩] from ⟨Vec.lit2 (by simp) rfl rfl,fun h b off e=>HBL.out b (by cases e;omega)⟩)
     have HL1:=Za (HOV.out.1.len)
     have HB:=Za (show pre.length+N.toNat*1+r.cells.length≤200 by have h1:=HCB.out;rw [HOW.out,HL1.out] at h1;omega)
     have HCS2:=Za (show (Tms.cons N ⟨ck,cp,ca,cb⟩ .nil r).cells=rep N.toNat [⟨ck,cp,ca,cb⟩]++r.cells by rw [HCS.out,HOW.out])
     clear hpl
     go_loopw [3,25] (fun u j wi=>∃(V:Value) (q:Nat),V=u∧q≤N.toNat∧j = .int .i64 q∧Hid (OwnV shSt wi w.heap.size 132 V (pre.length+q*1) (pre++rep q [⟨ck,cp,ca,cb⟩]))∧Hid (VecX wi V.ownBlock (some ⟨(wq.heap.size+1),0,none⟩) 1 [⟨ck,cp,ca,cb⟩]∧Ext w wi)) (fun _ j _=>N.toNat-(intOf j).toNat)
     case atStart=>exact ⟨_,0,rfl,by omega,rfl,Za (by have:=(HH.out.1).ext HXW.out;simpa [rep] using this),Za ⟨HOV.out,HE0.out.trans HXW.out⟩⟩
     case round =>
      obtain ⟨V2,q,rfl,hq,rfl,hown,hexi⟩:=hrel
      have hx0:=hexi.out.2
      obtain ⟨hz1,hz2,hz3⟩:=hx0.facts
      by_cases hlq:q<N.toNat
      ·have qN:(q:Int)<N:=by omega
       have HKB:=Za (show pre.length+q*1+1≤1000000 by
        have h1:(q+1)*1≤N.toNat*1:=Nat.mul_le_mul_right _ (by omega)
        rw [Nat.add_mul,Nat.one_mul] at h1
        have:=HB.out
        omega)
       go_wp2_with (at_builtin;refine zab (S:=shSt) (w:=w) 73 132 (.agg #[.int .u8 0,.bool false,.int .i64 0,.int .i64 0]) 24 (by rfl) (by rfl) Tryz.underlying73 za7 (by rfl) (by omega) (by rfl) (by rfl) hown.out hx0 hexi.out.1.1 HKB.out ?_;intro v' w3 hown3 hext3 hgr3)
       go_roundw
       case rel =>
        refine ⟨v',q+1,rfl,by omega,by go_num,Za ?_,Za ⟨hexi.out.1.step hgr3.out.1 hgr3.out.2,hext3.out⟩⟩
        have e1:pre.length+(q+1)*1=pre.length+q*1+1:=by rw [Nat.add_mul,Nat.one_mul];omega
        rw [e1,zg0,←ZJ]
        exact hown3
       case measure=>simp [intOf];omega
      ·obtain rfl:q=N.toNat:=by omega
       have qN:¬((N.toNat:Int)<N):=by omega
       go_wp2
       go_roundw
       case rel =>
        obtain ⟨e2,e3,e4,e5, -⟩:=HH.out
        refine ⟨V2,k+1,pre++rep N.toNat [⟨ck,cp,ca,cb⟩],r,rfl,by go_num,by omega,by omega,?_,Za ⟨?_,?_,HFR.out,hx0,fun h=>?_⟩⟩
        ·rw [Zh,zb4,HL1.out];have:=HB.out;omega
        ·rw [Zh,zb4,HL1.out]
         exact hown.out
        ·rw [←e3,HCS2.out,ZJ]
        ·refine ⟨b,off,rfl,hb1,?_⟩
         rw [show off+(k+1)*6=off+k*6+6 by omega]
         exact hr
       case measure=>simp [intOf];omega
   ·have hn0:rest.cnt=0:=by omega
    obtain rfl:=zbd hn0
    simp only [Tms.cnt] at hcnt
    obtain ⟨e1,e2,e3,e4, -⟩:=HH.out
    simp only [Tms.cells,ZH] at e2
    obtain rfl:k=n:=by omega
    obtain ⟨A2,c2,rfl,hv2,hb2⟩:=zac e1
    have hcap2:=zed e1
    have HK2:=Za (show Vec shSt wr A2 pre.length t.cells∧(0<pre.length→∀b off,A2=some ⟨b,off,none⟩→w.heap.size≤b)∧pre.length≤c2 by rw [←e2];exact ⟨hv2,hb2,hcap2⟩)
    have HE:=Za e4
    clear e1 e2 e3 e4 hv2 hb2 hcap2
    go_wp2_with fail
    go_ret
    exact ⟨_,_,_,rfl,HE.out,HK2.out.1,HK2.out.2.1,HK2.out.2.2⟩
end Go.Proofs.YtkneghkbgingdaaGreatDoor
/- The contracts of Check,Expand and Size of terms,both. -/
namespace Go.Proofs.YtkneghkbgingdaaGreatDoor
set_option maxRecDepth 100000
open Go.RowKit Go.ChangeShapes Go.WideShapes Go.Joins
theorem zjM {t:Tms} (h:200<t.size∨8<t.depth):tchkE t=4:=by rw [tchkE,if_pos h]
theorem znX {t:Tms} (h:¬(200<t.size∨8<t.depth)) (h2:fineT t=false):tchkE t=8:=by rw [tchkE,if_neg h,h2];rfl
theorem zm8 {t:Tms} (h:¬(200<t.size∨8<t.depth)) (h2:fineT t=true) (h3:200<lenT t 0):tchkE t=4:=by rw [tchkE,if_neg h,if_pos h2,if_pos h3]
theorem znW {t:Tms} (h:¬(200<t.size∨8<t.depth)) (h2:fineT t=true) (h3:¬200<lenT t 0):tchkE t=0:=by rw [tchkE,if_neg h,if_pos h2,if_neg h3]
theorem zjN (t:Tms):tchkE t=0∨tchkE t=4∨tchkE t=8:=by
 unfold tchkE;split
 ·exact .inr (.inl rfl)
 ·split
  ·split
   ·exact .inr (.inl rfl)
   ·exact .inl rfl
  ·exact .inr (.inr rfl)
theorem zbn (t:Tms) (ht:t.size≤5000) (A:Option Addr) (n cap:Nat) (w:World) (hv:Tv w A n t) :
  Calls Tryz.prog 101 #[.slice A n cap] w fun e w'=>e = .returned (.int .i64 (tchkE t))∧Ext w w':=by
 have HV:=Za hv
 have hsz:szM t=min (t.size:Int) 201:=rfl
 have HSZ:=Za hsz
 clear hv hsz
 by_cases h1:200<t.size
 ·have HE:=Za (zjM (t:=t) (.inl h1))
  have hs1:200<szM t:=by have:=HSZ.out;omega
  have hs2:szM t≤201:=by have:=HSZ.out;omega
  go_enter Tryz.func101,Tryz.ntmps101
  go_wp2_with (first | (go_at_call 132;((with_reducible refine (zcq 5000 (by omega) t ht A n cap _ (HV.out.ext zx)).mono ?_);rintro e w1 ⟨rfl,hq1⟩)))
  go_ret
  exact ⟨by rw [HE.out];rfl,zx⟩
 by_cases h2:8<t.depth
 ·have HE:=Za (zjM (t:=t) (.inr h2))
  have hs1:decide (200<szM t)=false:=by have:=HSZ.out;simp;omega
  have hd1:(8:Int)<(t.depth:Int):=by omega
  go_enter Tryz.func101,Tryz.ntmps101
  go_wp2_with (first | (go_at_call 132;((with_reducible refine (zcq 5000 (by omega) t ht A n cap _ (HV.out.ext zx)).mono ?_);rintro e w1 ⟨rfl,hq1⟩)))
  go_ret
  exact ⟨by rw [HE.out];rfl,zx⟩
 have hs1:decide (200<szM t)=false:=by have:=HSZ.out;simp;omega
 have hd1:decide ((8:Int)<(t.depth:Int))=false:=by simp;omega
 have hdn:decide (8<t.depth)=false:=by simp;omega
 cases hf:fineT t
 ·have HE:=Za (znX (t:=t) (by omega) hf)
  have HF:=Za hf
  clear hf
  go_enter Tryz.func101,Tryz.ntmps101
  go_wp2_with (first | (go_at_call 132;((with_reducible refine (zcq 5000 (by omega) t ht A n cap _ (HV.out.ext zx)).mono ?_);rintro e w1 ⟨rfl,hq1⟩)) | (go_at_call 133;((with_reducible refine (zd0 5000 (by omega) t ht A n cap _ (HV.out.ext zx)).mono ?_);rintro e w2 ⟨rfl,hq2⟩;rw [HF.out])))
  go_ret
  exact ⟨by rw [HE.out];rfl,zx⟩
 ·by_cases h3:200<lenT t 0
  ·have HE:=Za (zm8 (t:=t) (by omega) hf h3)
   have HF:=Za hf
   clear hf
   go_enter Tryz.func101,Tryz.ntmps101
   go_wp2_with (first | (go_at_call 132;((with_reducible refine (zcq 5000 (by omega) t ht A n cap _ (HV.out.ext zx)).mono ?_);rintro e w1 ⟨rfl,hq1⟩)) | (go_at_call 133;((with_reducible refine (zd0 5000 (by omega) t ht A n cap _ (HV.out.ext zx)).mono ?_);rintro e w2 ⟨rfl,hq2⟩;rw [HF.out])) | (go_at_call 134;((with_reducible refine (zdC 5000 (by omega) t ht HF.out A n cap _ (HV.out.ext zx)).mono ?_);rintro e w3 ⟨rfl,hq3⟩)))
   go_ret
   exact ⟨by rw [HE.out];rfl,zx⟩
  ·have HE:=Za (znW (t:=t) (by omega) hf h3)
   have HF:=Za hf
   have hl:decide (200<lenT t 0)=false:=by simp;omega
   clear hf
   go_enter Tryz.func101,Tryz.ntmps101
   go_wp2_with (first | (go_at_call 132;((with_reducible refine (zcq 5000 (by omega) t ht A n cap _ (HV.out.ext zx)).mono ?_);rintro e w1 ⟨rfl,hq1⟩)) | (go_at_call 133;((with_reducible refine (zd0 5000 (by omega) t ht A n cap _ (HV.out.ext zx)).mono ?_);rintro e w2 ⟨rfl,hq2⟩;rw [HF.out])) | (go_at_call 134;((with_reducible refine (zdC 5000 (by omega) t ht HF.out A n cap _ (HV.out.ext zx)).mono ?_);rintro e w3 ⟨rfl,hq3⟩)))
   go_ret
   exact ⟨by rw [HE.out];rfl,zx⟩
def texp_anyE (t:Tms) (w:World) (e:Ending) (w':World):Prop:=∃(A:Option Addr) (n c:Nat),e = .returned (.tuple #[.slice A n c,.int .i64 (tchkE t)])∧Ext w w'∧Vec shSt w' A n (if tchkE t=0 then t.cells else [])∧(0<n→∀b off,A=some ⟨b,off,none⟩→w.heap.size≤b)∧n≤c
theorem zcO {t:Tms} {w:World} {e:Ending} {w':World} {x:Int} {l:List St} (A:Option Addr) (n c:Nat) (hx:tchkE t=x) (hl:(if tchkE t=0 then t.cells else [])=l) (h1:e = .returned (.tuple #[.slice A n c,.int .i64 x])) (h2:Ext w w') (h3:Vec shSt w' A n l) (h4:0<n→∀b off,A=some ⟨b,off,none⟩→w.heap.size≤b) (h5:n≤c):texp_anyE t w e w' :=
 ⟨A,n,c,by rw [hx];exact h1,h2,by rw [hl];exact h3,h4,h5⟩
theorem zls (t:Tms) (ht:t.size≤5000) (A:Option Addr) (n cap:Nat) (w:World) (hv:Tv w A n t) :
  Calls Tryz.prog 81 #[.slice A n cap] w (texp_anyE t w):=by
 have HV:=Za hv
 clear hv
 rcases zjN t with h | h | h
 ·have HE:=Za h
  have HL:=Za (show (if tchkE t=0 then t.cells else [])=t.cells by rw [if_pos h])
  obtain ⟨_,_,g3,g4⟩:=zlY h
  have G3:=Za g3
  clear g3 h
  go_enter Tryz.func81,Tryz.ntmps81
  go_wp2_with (first | (go_at_call 101;((with_reducible refine (zbn t ht A n cap _ (HV.out.ext zx)).mono ?_);rintro e w1 ⟨rfl,hq1⟩;rw [HE.out])) | (go_at_call 116;((with_reducible refine (zhk 5000 (by omega) t ht G3.out g4 A n cap _ (HV.out.ext zx)).mono ?_);rintro e w2 ⟨A2,n2,c2,rfl,hq2,hv2,hb2,hcap2⟩)))
  have HB2:=Za hb2
  have HC2:=Za hcap2
  have HV2:=Za hv2
  have hqq:Ext w w2:=zx
  clear hb2 hv2 hcap2
  go_wp2
  go_ret2
  exact zcO A2 n2 c2 HE.out HL.out rfl zx HV2.out (fun h b off e=>by have h1:=HB2.out h b off e;have h2:=Zr (show Ext w _ from hq1);(try simp at h1);omega) HC2.out
 all_goals
  have HE:=Za h
  have HL:=Za (show (if tchkE t=0 then t.cells else [])=[] by rw [h];rfl)
  clear h
  go_enter Tryz.func81,Tryz.ntmps81
  go_wp2_with (first | (go_at_call 101;((with_reducible refine (zbn t ht A n cap _ (HV.out.ext zx)).mono ?_);rintro e w1 ⟨rfl,hq1⟩;rw [HE.out])))
  go_ret2
  exact zcO none 0 0 HE.out HL.out rfl zx (Vec.none_ _ _ _) (fun h=>absurd h (by omega)) (Zf _)
end Go.Proofs.YtkneghkbgingdaaGreatDoor
/- The frame of a law's row: what it returns is true,and what was in memory before the call reads as it did. -/
namespace Go.Proofs.YtkneghkbgingdaaGreatDoor
set_option maxRecDepth 100000
open Go.ChangeShapes Go.WideShapes Go.ChangeAt Go.RowKit
theorem zd8:laidOutB Tryz.prog=true:=by kernel_rfl
theorem own:ownKnob Tryz.prog.godebug=none:=by kernel_rfl
section
variable {H:Type} {enc:TypeId×Value→H} {P:Program}
theorem zes (hl:laidOutB P=true) {W W':World} (hb:Below W.heap.size W W') {sp:Nat→Bool} :
  ∀ {ts:List TypeId} {vs:List Value} {ds:List (DataW H)} {ps:List MemPlace},(∀t∈ts,P.readableRec t=true∧t<P.types.size) →
   DataW.TrodAll enc P W 0 (fun _=>true) true ts vs ds ps→(∀x∈ps,x.block<W.heap.size)→(∀x∈ps,sp x.block=true)→DataW.TrodAll enc P W' 0 sp true ts vs ds ps:=by
 intro ts
 induction ts with
 | nil =>
  intro vs ds ps _ h _ _
  obtain ⟨rfl,rfl,rfl⟩:=trodAll_nil h
  exact trodAll_mk0
 | cons t ts ih =>
  intro vs ds ps hr h hlt hsp
  obtain ⟨v,vs',d,ds',p,q,rfl,rfl,rfl,h1,h2⟩:=trodAll_cons h
  obtain ⟨hr1,hr2⟩:=hr t (by simp)
  refine trodAll_cons_mk (WideElems.Trod_stays hl hr1 hr2 h1 (fun x hx=>hb.same (hlt x (by simp [hx]))) (fun x hx=>hsp x (by simp [hx]))) ?_
  exact ih (fun t ht=>hr t (by simp [ht])) h2 (fun x hx=>hlt x (by simp [hx])) (fun x hx=>hsp x (by simp [hx]))
theorem zeg {f:Func} {s:ChangeSpec} {apart fresh handsOn again:Bool} {W W':World} {args:Array Value} {v:Value} {ds gs:List (DataW H)} {before pa pv:List MemPlace}
  (hW:DataW.Whole enc P f.params.toList s.vars apart W args.toList ds gs before)
  (hres:∀(b:Nat) (sp:Nat→Bool) (hd:Bool),DataW.TrodAll enc P W' b sp hd f.resultTypes.toList (v.resultList f.resultTypes.size) (s.fn H (ds++gs)).results [])
  (hargs:∀sp:Nat→Bool,(∀p∈before,sp p.block=true)→DataW.TrodAll enc P W' 0 sp true f.params.toList args.toList (s.fn H (ds++gs)).args pa)
  (hvars:∀sp:Nat→Bool,(∀p∈before,sp p.block=true)→DataW.TrodVars enc P W' sp s.vars (s.fn H (ds++gs)).vars pv)
  (hps:before=pa++pv) (hb:Below W.heap.size W W')
  (hok:∀(j:Nat) (t:TypeId) (r:Value),f.resultTypes[j]?=some t→(v.resultList f.resultTypes.size)[j]?=some r→Value.okWide P W' .any 0 t r) :
  s.post enc P f apart fresh handsOn again W args v W':=by
 have hlt:∀p∈before,p.block<W.heap.size:=fun p hp=>hW.lt p hp
 have hold:∀p∈before,(fun b=>decide (b<W.heap.size)) p.block=true:=fun p hp=>by simpa using hlt p hp
 refine ⟨ds,gs,before,[],pa,pv,hW,hres _ _ _,hargs _ hold,hvars _ hold,World.keptBut_mono (fun p hp=>⟨hp,?_⟩) (hb.frame (· ∈ before)),fun _=>?_⟩
 ·rw [hps,Zw] at hp
  exact Or.inr hp
 ·obtain ⟨_,_,_,_,_,hz,hn⟩:=hW
  refine ⟨hok,_,_,([]++pa)++pv,⟨[]++pa,pv,trodAll_append (hargs _ (fun _ _=>rfl)) (hres _ _ _),hvars _ (fun _ _=>rfl),rfl,?_,?_⟩,?_⟩
  ·intro b off hp
   have hin:MemPlace.cell b off∈before:=by rw [hps];simpa using hp
   rw [hb.frozen (hlt _ hin)]
   exact hz b off hin
  ·intro ha
   have:=hn ha
   rw [hps] at this
   simpa using this
  ·intro p hp _
   rw [hps]
   simpa using hp
theorem zd9 {f:Func} {s:ChangeSpec} {apart fresh handsOn again:Bool} {tb:TypeId} (hl:laidOutB P=true) (hf:f.resultTypes=#[tb]) (hu:P.underlying tb=some .bool)
  (hr:f.params.toList.all (fun t=>P.readableRec t && decide (t<P.types.size))=true) (hs0:s.vars=[])
  {W W':World} {args:Array Value} {ds gs:List (DataW H)} {before:List MemPlace} (hW:DataW.Whole enc P f.params.toList s.vars apart W args.toList ds gs before)
  (hs:s.fn H (ds++gs)={ results:=[.lit (.bool true)],args:=ds }) (hb:Ext W W'):s.post enc P f apart fresh handsOn again W args (.bool true) W':=by
 have hlt:∀p∈before,p.block<W.heap.size:=fun p hp=>hW.lt p hp
 have hW0:=hW
 obtain ⟨p,q,hA,hV,hpq,_,_⟩:=hW
 rw [hs0] at hV
 obtain ⟨rfl,rfl⟩:=trodVars_none hV
 have hpq':before=p:=by rw [hpq];simp
 subst hpq'
 refine zeg (pa:=before) (pv:=[]) hW0 (fun b sp hd=>?_) (fun sp hsp=>?_) (fun sp hsp=>?_) (by simp) hb (fun j t r h1 h2=>?_)
 ·rw [hs,hf]
  exact trodAll_mk1 (shut_bool hu true)
 ·rw [hs]
  refine zes hl hb (fun t ht=>?_) hA hlt hsp
  have:=Zq.1 hr t ht
  simpa using this
 ·rw [hs,hs0]
  rfl
 ·rw [hf] at h1 h2
  match j,h1,h2 with
  | 0,h1,h2 =>
   obtain rfl:tb=t:=by simpa using h1
   obtain rfl:Value.bool true=r:=by simpa [Value.resultList] using h2
   exact okWide_bool_mk hu true
end

end Go.Proofs.YtkneghkbgingdaaGreatDoor
