/- The reference's list of terms: its walk. -/
import Derived.Test.YtkneghkbgingdaaGreatDoorP36
namespace Go.Proofs.YtkneghkbgingdaaGreatDoor
set_option maxRecDepth 100000
set_option maxRecDepth 100000
open Go.RowKit Go.ChangeShapes Go.WideShapes Go.Joins
theorem zaS {P:Program} {ops:Array Oper} {rest:List Oper} {o:Oper} {a:Act} {Q:Exit→Act→World→Prop} {w wx:World} (T e:TypeId) (z:Value) (bytes:Nat) {s x:Operand} {v:Value} {k:Nat} (g0:Nat) {t g:Tms} (N:Int) (c:St) {A:Option Addr} {n cap:Nat}
  (hgd:o.guard=none) (ho:o.op = .call { callee := .builtin .append,args:=#[s,x],argTypes:=#[T,T] })
  (ht:P.underlying T=some (.slice e)) (hinfo:(P.info? e).map (fun i=>(i.zero,i.size,i.bytes))=some (some z,6,bytes)) (hzs:z.cells.size=6) (hby:bytes≤1000)
  (hs:a.eval s=v) (hx:a.eval x = .slice (some ⟨g0,0,none⟩) 1 1) (hown:OwnT wx w.heap.size e v k t) (hext:Ext w wx) (hck:0≤c.k∧c.k≤255)
  (hg:TvK wx (fun b=>w.heap.size≤b∧some b≠v.ownBlock) A n g)
  (hA:∀j u,([.int .i64 N,.int .u8 c.k,.bool c.p,.int .i64 c.a,.int .i64 c.b,.slice A n cap]:List Value)[j]?=some u→wx.cell? ⟨g0,j,none⟩=some u) (hk:k+1≤1000000)
  (h:∀A' c' w1,OwnT w1 w.heap.size e (.slice A' (k+1) c') (k+1) (t.app (.cons N c g .nil))→Hid (Ext w w1)→wpList P ops Q rest (a.put o.dst (.slice A' (k+1) c')) w1):wpList P ops Q (o::rest) a wx :=
 wpList_plain hgd fun _ hK=>zbA T e z bytes g0 N c ho ht hinfo hzs hby hs hx hown hext hck hg hA hk fun v' w' h2 h3=>by
  obtain ⟨A',c',rfl, -⟩:=zaD h2 hk
  exact hK _ _ (h A' c' w' h2 h3)
theorem zf6 (w:World) (o:Obj) (N k:Int) (p:Bool) (a b:Int) (v:Value) (T:TypeId) :
  ∀j u,([.int .i64 N,.int .u8 k,.bool p,.int .i64 a,.int .i64 b,v]:List Value)[j]?=some u→((w.alloc o).alloc (.cells #[.int .i64 N,.int .u8 k,.bool p,.int .i64 a,.int .i64 b,v] T)).cell? ⟨w.heap.size+1,j,none⟩=some u:=by
 intro j u hj
 have h:=zdl (w.alloc o) N k p a b v T j u hj
 have e:(w.alloc o).heap.size=w.heap.size+1:=by simp
 rw [e] at h
 exact h
set_option maxHeartbeats 8000000 in
theorem ziJ:∀(f d:Nat) (s:List UInt8) (w:World) (di:Int),di=(d:Int)→d≤20→s.length≤10000→3*s.length+3≤f →
  Calls Tryz.prog 150 #[.string ⟨s.toArray⟩,.int .i64 di] w (RListR (listP f d s) w):=by
 intro f
 induction f using Nat.strongRecOn with
 | ind f ih =>
  intro d s w di hdi hd hl hf
  subst hdi
  have HT:=Lib.hid (fun (k:Nat) (hk:k<f) (s':List UInt8) (w':World) (hl':s'.length≤10000) (hf':3*s'.length+2≤k)=>ziV k d s' w' hd hl' (fun f2 hf2 d2 s2 w2 di2 e2 hd2 hl2 hg2=>ih f2 (by omega) d2 s2 w2 di2 e2 hd2 hl2 hg2) hf')
  have HEN:=Lib.hid (fun (j:Nat) (hj:j≤s.length) (w':World)=>zlT s (by omega) j hj w')
  clear ih
  obtain ⟨zt,hzt,hzs⟩:=zcg
  have HZT:=Lib.hid hzt
  have HZS:=Lib.hid hzs
  clear hzt hzs
  by_cases h0:s=[]
  ·subst h0
   have HR:=Lib.hid (show listP f d []=some .nil from rfl)
   clear HT HEN
   go_enter Tryz.func150,Tryz.ntmps150
   go_wp2_with fail
   go_ret2
   exact RListR.yes HR.out (by repeat (first|exact zr _|assumption|refine za ?_ _|refine zd ?_|refine zn ?_ _|refine zt ?_ (by assumption))) (OwnT.nil _ _ _)
  ·have HR:=Lib.hid (show listP f d s=rlL f d 0 s by rw [listP,if_neg h0])
   have hpos:0<s.length:=List.length_pos_iff.2 h0
   have hz:((s.length:Int)==0)=false:=by rw [beq_eq_false_iff_ne];omega
   clear h0
   go_enter Tryz.func150,Tryz.ntmps150
   go_wp2_with fail
   go_loopw [6,7] (fun u i wr=>∃(A:Option Addr) (cc j F:Nat) (done:Tms),u = .slice A done.cnt cc∧i = .int .i64 j∧j≤s.length+1∧done.cnt≤j∧F≤f∧(j≤s.length→3*(s.length-j)+3≤F) ∧
    Hid (Ext w wr∧OwnT wr w.heap.size 134 (.slice A done.cnt cc) done.cnt done∧(j≤s.length→rlL f d 0 s=contL F d done (s.drop j))∧(s.length<j→rlL f d 0 s=some done))) (fun _ i _=>s.length+1-(intOf i).toNat)
   case atStart=>exact ⟨none,0,0,f,.nil,rfl,rfl,by omega,Nat.zero_le _,Nat.le_refl _,fun _=>by omega,Lib.hid ⟨by repeat (first|exact zr _|assumption|refine za ?_ _|refine zd ?_|refine zn ?_ _|refine zt ?_ (by assumption)),OwnT.nil _ _ _,fun _=>by rw [zfQ];rfl,fun h=>by omega⟩⟩
   case round =>
    obtain ⟨A,cc,j,F,done,rfl,rfl,hj,hcj,hF,hFj,HH⟩:=hrel
    obtain ⟨wa,rfl⟩:∃wa:World,wa=wr:=⟨_,rfl⟩
    have q0:(0:Int)≤(j:Int):=by omega
    have hxr:=HH.out.1
    by_cases hjl:j≤s.length
    ·have q1:(j:Int)≤(s.length:Int):=by omega
     have hFj2:=hFj hjl
     obtain ⟨F,rfl⟩:∃F',F=F'+1:=⟨F-1,by omega⟩
     have HC:=Lib.hid (HR.out.trans (HH.out.2.2.1 hjl))
     obtain ⟨X,hX⟩:∃X,(endP 0 (s.drop j)).1=X:=⟨_,rfl⟩
     obtain ⟨Y,hY⟩:∃Y,(endP 0 (s.drop j)).2=Y:=⟨_,rfl⟩
     have hap:=zg9 (s.drop j) 0
     rw [hX,hY] at hap
     have hlen:X.length+Y.length=s.length-j:=by
      have h9:=congrArg List.length hap
      simpa using h9
     obtain ⟨T,hT⟩:∃T,j+X.length=T:=⟨_,rfl⟩
     have hmid:(⟨s.toArray⟩:ByteArray).extract j T=⟨X.toArray⟩:=by rw [zfp,show T-j=X.length by omega,←hap,List.take_left]
     have HEJ:=Lib.hid (fun (w':World)=>(show Calls Tryz.prog 176 #[.string ⟨s.toArray⟩,.int .i64 (j:Int)] w' fun e w''=>e = .returned (.int .i64 (T:Int))∧Ext w' w'' from by
      have h9:=HEN.out j hjl w'
      rw [hX,hT] at h9
      exact h9))
     have HTX:=Lib.hid (fun (w':World)=>HT.out F (by omega) X w' (by omega) (by omega))
     have t0:j≤T:=by omega
     have t1:T≤s.length:=by omega
     have t2:T+Y.length=s.length:=by omega
     have t3:s.drop T=Y:=by rw [←hT,←List.drop_drop,←hap,List.drop_left]
     have r1:(j:Int)≤(T:Int):=by omega
     have r2:(T:Int)≤(s.length:Int):=by omega
     have HX:=Lib.hid hX
     have HY:=Lib.hid hY
     have HT3:=Lib.hid t3
     clear hX hY hap hT t3
     cases hq:rlT F d X with
     | none =>
      have HN:=Lib.hid (HC.out.trans (zhi (by rw [HX.out];exact hq)))
      have HQ:=Lib.hid hq
      clear hq
      go_wp2_with (first
       | (go_at_call 176;((with_reducible refine (HEJ.out _).mono ?_);rintro e w1 ⟨rfl,hq1⟩))
       | (go_at_call 177;((with_reducible refine (HTX.out _).mono ?_);rintro e w2 ⟨hb,hn, -⟩;obtain ⟨n9,A9,m9,p9,rfl⟩:=hn HQ.out;have HB:=Lib.hid (Ext.trans (by repeat (first|exact zr _|assumption|refine za ?_ _|refine zd ?_|refine zn ?_ _|refine zt ?_ (by assumption)):Ext wa _) hb);clear hb hn)))
      go_ret2
      exact RListR.no HN.out ((hxr.trans HB.out).alloc _)
     | some x =>
      obtain ⟨N,⟨ck,cp,ca,cb⟩,g⟩:=x
      have HQ:=Lib.hid hq
      have HQX:=Lib.hid (show rlT F d (endP 0 (s.drop j)).1=some (N,⟨ck,cp,ca,cb⟩,g) by rw [HX.out];exact hq)
      clear hq
      by_cases hm:200<done.cnt
      ·have HN:=Lib.hid (HC.out.trans (zh4 hm))
       have hm2:(200:Int)<(done.cnt:Int):=by omega
       go_wp2_with (first
        | (go_at_call 176;((with_reducible refine (HEJ.out _).mono ?_);rintro e w1 ⟨rfl,hq1⟩))
        | (go_at_call 177;((with_reducible refine (HTX.out _).mono ?_);rintro e w2 ⟨hb, -,hy⟩;obtain ⟨A3,p3,rfl, -, -⟩:=hy _ _ _ HQ.out;have HB:=Lib.hid (Ext.trans (by repeat (first|exact zr _|assumption|refine za ?_ _|refine zd ?_|refine zn ?_ _|refine zt ?_ (by assumption)):Ext wa _) hb);clear hb hy)))
       go_ret2
       exact RListR.no HN.out ((hxr.trans HB.out).alloc _)
      ·have hm2:¬((200:Int)<(done.cnt:Int)):=by omega
       have HBL:=Lib.hid (show ∀b,wa.heap.size≤b→w.heap.size≤b∧some b≠(Value.slice A done.cnt cc).ownBlock from fun b hb=>by
        obtain ⟨_,L,hL,_⟩:=HH.out.2.1
        exact ⟨Nat.le_trans (Below.size hxr) hb,fun e=>by have:=(zbd hL b e.symm).2;omega⟩)
       have HOW:=Lib.hid (fun (w':World) (h:Ext wa w')=>(HH.out.2.1).ext h)
       cases Y with
       | nil =>
        have HN:=Lib.hid (HC.out.trans (zhV HQX.out hm HY.out))
        have e9:T=s.length:=by simpa using t2
        subst e9
        go_wp2_with (first
         | (go_at_call 176;((with_reducible refine (HEJ.out _).mono ?_);rintro e w1 ⟨rfl,hq1⟩))
         | (go_at_call 177;((with_reducible refine (HTX.out _).mono ?_);rintro e w2 ⟨hb, -,hy⟩;obtain ⟨A3,p3,rfl,htv,hkk⟩:=hy _ _ _ HQ.out;have HB:=Lib.hid (Ext.trans (by repeat (first|exact zr _|assumption|refine za ?_ _|refine zd ?_|refine zn ?_ _|refine zt ?_ (by assumption)):Ext wa _) hb);have HTV:=Lib.hid (htv.mono (K':=fun b=>w.heap.size≤b∧some b≠(Value.slice A done.cnt cc).ownBlock) (fun b _ h=>HBL.out b (Nat.le_trans (Below.size (by repeat (first|exact zr _|assumption|refine za ?_ _|refine zd ?_|refine zn ?_ _|refine zt ?_ (by assumption)):Ext wa _)) h)));have HKK:=Lib.hid hkk;clear hb hy htv hkk))
         | (at_builtin;(refine zaS (w:=w) 91 134 zt 56 (w2.heap.size+1) N ⟨ck,cp,ca,cb⟩ (t:=done) (g:=g) (A:=A3) (n:=g.cnt) (cap:=p3) (by rfl) (by rfl) Tryz.underlying91 HZT.out HZS.out (by omega) (by rfl) (by rfl) (HOW.out _ (HB.out.trans (((Ext.refl _).alloc _).alloc _))) ((hxr.trans HB.out).trans (((Ext.refl _).alloc _).alloc _)) HKK.out (HTV.out.ext (((Ext.refl _).alloc _).alloc _)) (zf6 _ _ _ _ _ _ _ _ _) (by omega) ?_;intro A4 c4 w4 hown4 hext4)))
        go_roundw
        case rel =>
         have e8:(done.app (Tms.cons N ⟨ck,cp,ca,cb⟩ g .nil)).cnt=done.cnt+1:=zbn _ _
         exact ⟨A4,c4,s.length+1,F,done.app (.cons N ⟨ck,cp,ca,cb⟩ g .nil),by rw [e8],by go_num,by omega,by omega,by omega,fun h=>by omega,Lib.hid ⟨hext4.out,by rw [e8];exact hown4,fun h=>by omega,fun _=>HR.out.symm.trans HN.out⟩⟩
        case measure=>simp [intOf] <;> omega
       | cons x s2 =>
        have hsT:s.getD T 0=x:=by
         have h9:=HT3.out
         have h8:=congrArg (fun l=>l.getD 0 0) h9
         simp only [List.getD_cons_zero] at h8
         rw [←h8]
         simp [List.getD_eq_getElem?_getD,List.getElem?_drop]
        have hTlt:T<s.length:=by simp only [List.length_cons] at t2;omega
        have h5:=zam s T
        rw [hsT] at h5
        have q5:(T:Int)<(s.length:Int):=by omega
        have q6:(0:Int)≤(T:Int):=by omega
        have HST:=Lib.hid hsT
        clear hsT
        by_cases hx:x=32
        ·subst hx
         have HN:=Lib.hid (HC.out.trans (zia HQX.out hm HY.out))
         have HS2:=Lib.hid (show s.drop (T+1)=s2 by rw [←List.drop_drop,HT3.out];rfl)
         go_wp2_with (first
          | (go_at_call 176;((with_reducible refine (HEJ.out _).mono ?_);rintro e w1 ⟨rfl,hq1⟩))
          | (go_at_call 177;((with_reducible refine (HTX.out _).mono ?_);rintro e w2 ⟨hb, -,hy⟩;obtain ⟨A3,p3,rfl,htv,hkk⟩:=hy _ _ _ HQ.out;have HB:=Lib.hid (Ext.trans (by repeat (first|exact zr _|assumption|refine za ?_ _|refine zd ?_|refine zn ?_ _|refine zt ?_ (by assumption)):Ext wa _) hb);have HTV:=Lib.hid (htv.mono (K':=fun b=>w.heap.size≤b∧some b≠(Value.slice A done.cnt cc).ownBlock) (fun b _ h=>HBL.out b (Nat.le_trans (Below.size (by repeat (first|exact zr _|assumption|refine za ?_ _|refine zd ?_|refine zn ?_ _|refine zt ?_ (by assumption)):Ext wa _)) h)));have HKK:=Lib.hid hkk;clear hb hy htv hkk))
          | (at_builtin;(refine zaS (w:=w) 91 134 zt 56 (w2.heap.size+1) N ⟨ck,cp,ca,cb⟩ (t:=done) (g:=g) (A:=A3) (n:=g.cnt) (cap:=p3) (by rfl) (by rfl) Tryz.underlying91 HZT.out HZS.out (by omega) (by rfl) (by rfl) (HOW.out _ (HB.out.trans (((Ext.refl _).alloc _).alloc _))) ((hxr.trans HB.out).trans (((Ext.refl _).alloc _).alloc _)) HKK.out (HTV.out.ext (((Ext.refl _).alloc _).alloc _)) (zf6 _ _ _ _ _ _ _ _ _) (by omega) ?_;intro A4 c4 w4 hown4 hext4)))
         go_roundw
         case rel =>
          have e8:(done.app (Tms.cons N ⟨ck,cp,ca,cb⟩ g .nil)).cnt=done.cnt+1:=zbn _ _
          exact ⟨A4,c4,T+1,F,done.app (.cons N ⟨ck,cp,ca,cb⟩ g .nil),by rw [e8],by go_num,by omega,by omega,by omega,fun h=>by omega,Lib.hid ⟨hext4.out,by rw [e8];exact hown4,fun _=>by rw [HS2.out];exact HR.out.symm.trans HN.out,fun h=>by omega⟩⟩
         case measure=>simp [intOf] <;> omega
        ·have HN:=Lib.hid (HC.out.trans (ziD HY.out hx))
         have b32:((x.toNat:Int) != 32)=true:=by rw [bne_iff_ne];intro e;exact hx (UInt8.toNat_inj.1 (by rw [show ((32:UInt8).toNat)=32 from rfl];omega))
         clear hx
         go_wp2_with (first
          | (go_at_call 176;((with_reducible refine (HEJ.out _).mono ?_);rintro e w1 ⟨rfl,hq1⟩))
          | (go_at_call 177;((with_reducible refine (HTX.out _).mono ?_);rintro e w2 ⟨hb, -,hy⟩;obtain ⟨A3,p3,rfl,htv,hkk⟩:=hy _ _ _ HQ.out;have HB:=Lib.hid (Ext.trans (by repeat (first|exact zr _|assumption|refine za ?_ _|refine zd ?_|refine zn ?_ _|refine zt ?_ (by assumption)):Ext wa _) hb);have HTV:=Lib.hid (htv.mono (K':=fun b=>w.heap.size≤b∧some b≠(Value.slice A done.cnt cc).ownBlock) (fun b _ h=>HBL.out b (Nat.le_trans (Below.size (by repeat (first|exact zr _|assumption|refine za ?_ _|refine zd ?_|refine zn ?_ _|refine zt ?_ (by assumption)):Ext wa _)) h)));have HKK:=Lib.hid hkk;clear hb hy htv hkk))
          | (at_builtin;(refine zaS (w:=w) 91 134 zt 56 (w2.heap.size+1) N ⟨ck,cp,ca,cb⟩ (t:=done) (g:=g) (A:=A3) (n:=g.cnt) (cap:=p3) (by rfl) (by rfl) Tryz.underlying91 HZT.out HZS.out (by omega) (by rfl) (by rfl) (HOW.out _ (HB.out.trans (((Ext.refl _).alloc _).alloc _))) ((hxr.trans HB.out).trans (((Ext.refl _).alloc _).alloc _)) HKK.out (HTV.out.ext (((Ext.refl _).alloc _).alloc _)) (zf6 _ _ _ _ _ _ _ _ _) (by omega) ?_;intro A4 c4 w4 hown4 hext4)))
         go_ret2
         exact RListR.no HN.out hext4.out
    ·have hn:¬((j:Int)≤(s.length:Int)):=by omega
     have HN:=Lib.hid (HR.out.trans (HH.out.2.2.2 (by omega)))
     go_wp2_with fail
     go_ret2
     exact RListR.yes HN.out hxr (HH.out.2.1)
end Go.Proofs.YtkneghkbgingdaaGreatDoor
