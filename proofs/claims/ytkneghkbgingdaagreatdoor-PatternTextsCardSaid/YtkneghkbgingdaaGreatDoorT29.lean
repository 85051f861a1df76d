/- The reference's list of terms: its walk. -/
import Derived.Test.YtkneghkbgingdaaGreatDoorT28
namespace Go.Proofs.YtkneghkbgingdaaGreatDoor
set_option maxHeartbeats 16000000
set_option maxRecDepth 100000
open Go.RowKit Go.ChangeShapes Go.WideShapes Go.Joins
theorem zaV {P:Program} {ops:Array Oper} {rest:List Oper} {o:Oper} {a:Act} {Q:Exit->Act->World->Prop} {w wx:World} (T e:TypeId) (z:Value) (bytes:Nat) {s x:Operand} {v:Value} {k:Nat} (g0:Nat) {t g:Tms} (N:Int) (c:St) {A:Option Addr} {n cap:Nat}
  (hgd:o.guard=none) (ho:o.op = .call { callee := .builtin .append,args:=#[s,x],argTypes:=#[T,T] })
  (ht:P.underlying T=some (.slice e)) (hinfo:(P.info? e).map (fun i=>(i.zero,i.size,i.bytes))=some (some z,6,bytes)) (hzs:z.cells.size=6) (hby:bytes<=1000)
  (hs:a.eval s=v) (hx:a.eval x = .slice (some ⟨g0,0,none⟩) 1 1) (hown:OwnT wx w.heap.size e v k t) (hext:Ext w wx) (hck:0<=c.k/\c.k<=255)
  (hg:TvK wx (fun b=>w.heap.size<=b/\some b≠v.ownBlock) A n g)
  (hA:∀j u,([.int .i64 N,.int .u8 c.k,.bool c.p,.int .i64 c.a,.int .i64 c.b,.slice A n cap]:List Value)[j]?=some u->wx.cell? ⟨g0,j,none⟩=some u) (hk:k+1<=1000000)
  (h:∀A' c' w1,OwnT w1 w.heap.size e (.slice A' (k+1) c') (k+1) (t.app (.cons N c g .nil))->Hid (Ext w w1)->wpList P ops Q rest (a.put o.dst (.slice A' (k+1) c')) w1):wpList P ops Q (o::rest) a wx :=
 wpList_plain hgd fun _ hK=>zbY T e z bytes g0 N c ho ht hinfo hzs hby hs hx hown hext hck hg hA hk fun v' w' h2 h3=>by
  obtain ⟨A',c',rfl, -⟩:=zaA h2 hk
  exact hK _ _ (h A' c' w' h2 h3)
theorem zg6 (w:World) (o:Obj) (N k:Int) (p:Bool) (a b:Int) (v:Value) (T:TypeId) :
  ∀j u,([.int .i64 N,.int .u8 k,.bool p,.int .i64 a,.int .i64 b,v]:List Value)[j]?=some u->((w.alloc o).alloc (.cells #[.int .i64 N,.int .u8 k,.bool p,.int .i64 a,.int .i64 b,v] T)).cell? ⟨w.heap.size+1,j,none⟩=some u:=by
 intro j u hj
 have h:=zei (w.alloc o) N k p a b v T j u hj
 have e:(w.alloc o).heap.size=w.heap.size+1:=by simp
 rw [e] at h
 exact h
theorem zkS:∀(f d:Nat) (s:List UInt8) (w:World) (di:Int),di=(d:Int)->d<=20->s.length<=10000->3*s.length+3<=f ->
  Calls Tryz.prog 150 #[.string ⟨s.toArray⟩,.int .i64 di] w (RListR (listP f d s) w):=by
 intro f
 induction f using Nat.strongRecOn with
 | ind f ih =>
  intro d s w di ay hd hl hf
  subst ay
  have HT:=Za (fun (k:Nat) (hk:k<f) (s':List UInt8) (w':World) (hl':s'.length<=10000) (hf':3*s'.length+2<=k)=>zk1 k d s' w' hd hl' (fun f2 hf2 d2 s2 w2 di2 e2 hd2 hl2 hg2=>ih f2 (by omega) d2 s2 w2 di2 e2 hd2 hl2 hg2) hf')
  have ap:=Za (fun (j:Nat) (hj:j<=s.length) (w':World)=>znT s (by omega) j hj w')
  clear ih
  obtain ⟨zt,av,au⟩:=zcC
  have an:=Za av
  have am:=Za au
  clear av au
  by_cases h0:s=[]
  ·subst h0
   have HR:=Za (show listP f d []=some .nil from rfl)
   clear HT ap
   go_enter Tryz.func150,Tryz.ntmps150
   go_wp2_with fail
   go_ret2
   exact RListR.yes HR.out zx (OwnT.nil _ _ _)
  ·have HR:=Za (show listP f d s=rlL f d 0 s by rw [listP,if_neg h0])
   have hpos:0<s.length:=ZM.2 h0
   have hz:((s.length:Int)==0)=false:=by rw [Ze];omega
   clear h0
   go_enter Tryz.func150,Tryz.ntmps150
   go_wp2_with fail
   go_loopw [6,7] (fun u i wr=>∃(A:Option Addr) (cc j F:Nat) (done:Tms),u = .slice A done.cnt cc/\i = .int .i64 j/\j<=s.length+1/\done.cnt<=j/\F<=f/\(j<=s.length->3*(s.length-j)+3<=F) /\
    Hid (Ext w wr/\OwnT wr w.heap.size 134 (.slice A done.cnt cc) done.cnt done/\(j<=s.length->rlL f d 0 s=contL F d done (s.drop j))/\(s.length<j->rlL f d 0 s=some done))) (fun _ i _=>s.length+1-(intOf i).toNat)
   case atStart=>exact ⟨none,0,0,f,.nil,rfl,rfl,by omega,Zy _,Zg _,fun _=>by omega,Za ⟨zx,OwnT.nil _ _ _,fun _=>by rw [zgw];rfl,fun h=>by omega⟩⟩
   case round =>
    obtain ⟨A,cc,j,F,done,rfl,rfl,hj,hcj,hF,ax,HH⟩:=hrel
    obtain ⟨wa,rfl⟩:∃wa:World,wa=wr:=⟨_,rfl⟩
    have q0:(0:Int)<=(j:Int):=by omega
    have ae:=HH.out.1
    by_cases hjl:j<=s.length
    ·have q1:(j:Int)<=(s.length:Int):=by omega
     have hFj2:=ax hjl
     obtain ⟨F,rfl⟩:∃F',F=F'+1:=⟨F-1,by omega⟩
     have HC:=Za (HR.out.trans (HH.out.2.2.1 hjl))
     obtain ⟨X,hX⟩:∃X,(endP 0 (s.drop j)).1=X:=⟨_,rfl⟩
     obtain ⟨Y,hY⟩:∃Y,(endP 0 (s.drop j)).2=Y:=⟨_,rfl⟩
     have aj:=zhw (s.drop j) 0
     rw [hX,hY] at aj
     have hlen:X.length+Y.length=s.length-j:=by
      have h9:=congrArg List.length aj
      simpa using h9
     obtain ⟨T,hT⟩:∃T,j+X.length=T:=⟨_,rfl⟩
     have hmid:(⟨s.toArray⟩:ByteArray).extract j T=⟨X.toArray⟩:=by rw [zg4,show T-j=X.length by omega,<-aj,List.take_left]
     have af:=Za (fun (w':World)=>(show Calls Tryz.prog 176 #[.string ⟨s.toArray⟩,.int .i64 (j:Int)] w' fun e w''=>e = .returned (.int .i64 (T:Int))/\Ext w' w'' from by
      have h9:=ap.out j hjl w'
      rw [hX,hT] at h9
      exact h9))
     have ai:=Za (fun (w':World)=>HT.out F (by omega) X w' (by omega) (by omega))
     have t0:j<=T:=by omega
     have t1:T<=s.length:=by omega
     have t2:T+Y.length=s.length:=by omega
     have t3:s.drop T=Y:=by rw [<-hT,<-List.drop_drop,<-aj,List.drop_left]
     have r1:(j:Int)<=(T:Int):=by omega
     have r2:(T:Int)<=(s.length:Int):=by omega
     have HX:=Za hX
     have HY:=Za hY
     have ar:=Za t3
     clear hX hY aj hT t3
     cases hq:rlT F d X with
     | none =>
      have HN:=Za (HC.out.trans (ziq (by rw [HX.out];exact hq)))
      have HQ:=Za hq
      clear hq
      go_wp2_with (first
       | (go_at_call 176;((with_reducible refine (af.out _).mono ?_);rintro e w1 ⟨rfl,hq1⟩))
       | (go_at_call 177;((with_reducible refine (ai.out _).mono ?_);rintro e w2 ⟨hb,hn, -⟩;obtain ⟨n9,A9,m9,p9,rfl⟩:=hn HQ.out;have HB:=Za (Zi (zx:Ext wa _) hb);clear hb hn)))
      go_ret2
      exact RListR.no HN.out ((ae.trans HB.out).alloc _)
     | some x =>
      obtain ⟨N,⟨ck,cp,ca,cb⟩,g⟩:=x
      have HQ:=Za hq
      have aq:=Za (show rlT F d (endP 0 (s.drop j)).1=some (N,⟨ck,cp,ca,cb⟩,g) by rw [HX.out];exact hq)
      clear hq
      by_cases hm:200<done.cnt
      ·have HN:=Za (HC.out.trans (zio hm))
       have az:(200:Int)<(done.cnt:Int):=by omega
       go_wp2_with (first
        | (go_at_call 176;((with_reducible refine (af.out _).mono ?_);rintro e w1 ⟨rfl,hq1⟩))
        | (go_at_call 177;((with_reducible refine (ai.out _).mono ?_);rintro e w2 ⟨hb, -,hy⟩;obtain ⟨A3,p3,rfl, -, -⟩:=hy _ _ _ HQ.out;have HB:=Za (Zi (zx:Ext wa _) hb);clear hb hy)))
       go_ret2
       exact RListR.no HN.out ((ae.trans HB.out).alloc _)
      ·have az:¬((200:Int)<(done.cnt:Int)):=by omega
       have ak:=Za (show ∀b,wa.heap.size<=b->w.heap.size<=b/\some b≠(Value.slice A done.cnt cc).ownBlock from fun b hb=>by
        obtain ⟨_,L,hL,_⟩:=HH.out.2.1
        exact ⟨ZD (Zl ae) hb,fun e=>by have:=(zbk hL b e.symm).2;omega⟩)
       have al:=Za (fun (w':World) (h:Ext wa w')=>(HH.out.2.1).ext h)
       cases Y with
       | nil =>
        have HN:=Za (HC.out.trans (zin aq.out hm HY.out))
        have e9:T=s.length:=by simpa using t2
        subst e9
        go_wp2_with (first
         | (go_at_call 176;((with_reducible refine (af.out _).mono ?_);rintro e w1 ⟨rfl,hq1⟩))
         | (go_at_call 177;((with_reducible refine (ai.out _).mono ?_);rintro e w2 ⟨hb, -,hy⟩;obtain ⟨A3,p3,rfl,ad,ac⟩:=hy _ _ _ HQ.out;have HB:=Za (Zi (zx:Ext wa _) hb);have ah:=Za (ad.mono (K':=fun b=>w.heap.size<=b/\some b≠(Value.slice A done.cnt cc).ownBlock) (fun b _ h=>ak.out b (ZD (Zl (zx:Ext wa _)) h)));have ag:=Za ac;clear hb hy ad ac))
         | (at_builtin;(refine zaV (w:=w) 91 134 zt 56 (w2.heap.size+1) N ⟨ck,cp,ca,cb⟩ (t:=done) (g:=g) (A:=A3) (n:=g.cnt) (cap:=p3) (by rfl) (by rfl) Tryz.underlying91 an.out am.out (by omega) (by rfl) (by rfl) (al.out _ (HB.out.trans (((Zf _).alloc _).alloc _))) ((ae.trans HB.out).trans (((Zf _).alloc _).alloc _)) ag.out (ah.out.ext (((Zf _).alloc _).alloc _)) (zg6 _ _ _ _ _ _ _ _ _) (by omega) ?_;intro A4 c4 w4 ab aa)))
        go_roundw
        case rel =>
         have e8:(done.app (Tms.cons N ⟨ck,cp,ca,cb⟩ g .nil)).cnt=done.cnt+1:=zbw _ _
         exact ⟨A4,c4,s.length+1,F,done.app (.cons N ⟨ck,cp,ca,cb⟩ g .nil),by rw [e8],by go_num,by omega,by omega,by omega,fun h=>by omega,Za ⟨aa.out,by rw [e8];exact ab,fun h=>by omega,fun _=>HR.out.symm.trans HN.out⟩⟩
        case measure=>simp [intOf] <;> omega
       | cons x s2 =>
        have ao:s.getD T 0=x:=by
         have h9:=ar.out
         have h8:=congrArg (fun l=>l.getD 0 0) h9
         simp only [ZR] at h8
         rw [<-h8]
         simp [List.getD_eq_getElem?_getD,List.getElem?_drop]
        have hTlt:T<s.length:=by simp only [Zk] at t2;omega
        have h5:=zam s T
        rw [ao] at h5
        have q5:(T:Int)<(s.length:Int):=by omega
        have q6:(0:Int)<=(T:Int):=by omega
        have HST:=Za ao
        clear ao
        by_cases hx:x=32
        ·subst hx
         have HN:=Za (HC.out.trans (zip aq.out hm HY.out))
         have aw:=Za (show s.drop (T+1)=s2 by rw [<-List.drop_drop,ar.out];rfl)
         go_wp2_with (first
          | (go_at_call 176;((with_reducible refine (af.out _).mono ?_);rintro e w1 ⟨rfl,hq1⟩))
          | (go_at_call 177;((with_reducible refine (ai.out _).mono ?_);rintro e w2 ⟨hb, -,hy⟩;obtain ⟨A3,p3,rfl,ad,ac⟩:=hy _ _ _ HQ.out;have HB:=Za (Zi (zx:Ext wa _) hb);have ah:=Za (ad.mono (K':=fun b=>w.heap.size<=b/\some b≠(Value.slice A done.cnt cc).ownBlock) (fun b _ h=>ak.out b (ZD (Zl (zx:Ext wa _)) h)));have ag:=Za ac;clear hb hy ad ac))
          | (at_builtin;(refine zaV (w:=w) 91 134 zt 56 (w2.heap.size+1) N ⟨ck,cp,ca,cb⟩ (t:=done) (g:=g) (A:=A3) (n:=g.cnt) (cap:=p3) (by rfl) (by rfl) Tryz.underlying91 an.out am.out (by omega) (by rfl) (by rfl) (al.out _ (HB.out.trans (((Zf _).alloc _).alloc _))) ((ae.trans HB.out).trans (((Zf _).alloc _).alloc _)) ag.out (ah.out.ext (((Zf _).alloc _).alloc _)) (zg6 _ _ _ _ _ _ _ _ _) (by omega) ?_;intro A4 c4 w4 ab aa)))
         go_roundw
         case rel =>
          have e8:(done.app (Tms.cons N ⟨ck,cp,ca,cb⟩ g .nil)).cnt=done.cnt+1:=zbw _ _
          exact ⟨A4,c4,T+1,F,done.app (.cons N ⟨ck,cp,ca,cb⟩ g .nil),by rw [e8],by go_num,by omega,by omega,by omega,fun h=>by omega,Za ⟨aa.out,by rw [e8];exact ab,fun _=>by rw [aw.out];exact HR.out.symm.trans HN.out,fun h=>by omega⟩⟩
         case measure=>simp [intOf] <;> omega
        ·have HN:=Za (HC.out.trans (zjC HY.out hx))
         have b32:((x.toNat:Int) != 32)=true:=by rw [bne_iff_ne];intro e;exact hx (ZQ.1 (by rw [show ((32:UInt8).toNat)=32 from rfl];omega))
         clear hx
         go_wp2_with (first
          | (go_at_call 176;((with_reducible refine (af.out _).mono ?_);rintro e w1 ⟨rfl,hq1⟩))
          | (go_at_call 177;((with_reducible refine (ai.out _).mono ?_);rintro e w2 ⟨hb, -,hy⟩;obtain ⟨A3,p3,rfl,ad,ac⟩:=hy _ _ _ HQ.out;have HB:=Za (Zi (zx:Ext wa _) hb);have ah:=Za (ad.mono (K':=fun b=>w.heap.size<=b/\some b≠(Value.slice A done.cnt cc).ownBlock) (fun b _ h=>ak.out b (ZD (Zl (zx:Ext wa _)) h)));have ag:=Za ac;clear hb hy ad ac))
          | (at_builtin;(refine zaV (w:=w) 91 134 zt 56 (w2.heap.size+1) N ⟨ck,cp,ca,cb⟩ (t:=done) (g:=g) (A:=A3) (n:=g.cnt) (cap:=p3) (by rfl) (by rfl) Tryz.underlying91 an.out am.out (by omega) (by rfl) (by rfl) (al.out _ (HB.out.trans (((Zf _).alloc _).alloc _))) ((ae.trans HB.out).trans (((Zf _).alloc _).alloc _)) ag.out (ah.out.ext (((Zf _).alloc _).alloc _)) (zg6 _ _ _ _ _ _ _ _ _) (by omega) ?_;intro A4 c4 w4 ab aa)))
         go_ret2
         exact RListR.no HN.out aa.out
    ·have hn:¬((j:Int)<=(s.length:Int)):=by omega
     have HN:=Za (HR.out.trans (HH.out.2.2.2 (by omega)))
     go_wp2_with fail
     go_ret2
     exact RListR.yes HN.out ae (HH.out.2.1)
end Go.Proofs.YtkneghkbgingdaaGreatDoor
