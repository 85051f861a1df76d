/- factor.kinds. -/
import Derived.Test.YtbjgpbojjhldaaaGreatDoorY27
import Derived.WalkMore
set_option maxHeartbeats 16000000
namespace Go.Proofs.YtbjgpbojjhldaaaGreatDoor
set_option maxRecDepth 100000
open Go.RowKit Go.ChangeShapes Go.WideShapes Go.Joins
section
variable {ops:Array Oper} {rest:List Oper} {o:Oper} {a:Act} {K:Act->World->Prop} {Q:Exit->Act->World->Prop} {wx:World}
theorem zcI (hgd:o.guard=none) (ho:o.op = .alloc 200)
  (h:wpList Tryz.prog ops Q rest (a.put o.dst (.pointer (some ⟨wx.heap.size,0,none⟩))) (wx.alloc (.cells (lnC []).toArray 200))):wpList Tryz.prog ops Q (o::rest) a wx:=by
 have hz:∀W,(zeroValue 200).run Tryz.prog W = .ok (.agg (lnC []).toArray) W:=fun W=>by kernel_rfl
 refine wpList_plain hgd fun K hK'=>?_
 unfold Oper.wp
 obtain ⟨z,aa⟩:∃z,(lnC []).toArray=z:=⟨_,rfl⟩
 rw [aa] at hz h
 have hr:(newVar 200 (.agg z)).run Tryz.prog wx = .ok ⟨wx.heap.size,0,none⟩ (wx.alloc (.cells z 200)):=by
  simp [newVar,newRow,Value.cells,Result.andThen]
 simp [execOp,ho,Instr.alloc,hz,hr,Result.andThen]
 exact hK' _ _ h
end
theorem zaL {ops:Array Oper} {W0:World} {Q:Act->Prop} {o:Oper} {rest:List Oper} {a:Act} {b off:Nat} {s:List Bool} (x:Operand) (hw:Region.wanted o (yielded ops a.tmps)=true) (ho:o.op = .load 200 x)
  (hx:a.eval x = .pointer (some ⟨b,off,none⟩)) (hC:W0.rangeAt b off (lnC s)) (h:wpQuiet Tryz.prog ops (fun w'=>∃n,w'=W0.drewN n) Q rest (a.put o.dst (.agg (lnC s).toArray))):wpQuiet Tryz.prog ops (fun w'=>∃n,w'=W0.drewN n) Q (o::rest) a:=by
 rw [wpQuiet,if_pos hw]
 refine ⟨_,?_,h⟩
 rintro w ⟨n,rfl⟩
 have hr:=run_loadAt_mid (P:=Tryz.prog) (W0.drewN n) b off 200 (lnC s) _ hC zeY rfl (by rw [za2];exact zco)
 unfold Oper.quietAt execOp
 simp only [ho,hx,Sem.run_bind,hr,Result.andThen_ok]
 exact ⟨rfl,rfl⟩
theorem zbO {ops:Array Oper} {W0:World} {Q:Act->Prop} {o:Oper} {rest:List Oper} {a:Act} {s r:List Bool} (x y:Operand) {v:Bool} (hw:Region.wanted o (yielded ops a.tmps)=true) (t:TypeId) (ho:o.op = .binOp .neq 200 x y t)
  (hx:a.eval x = .agg (lnC s).toArray) (hy:a.eval y = .agg (lnC r).toArray) (hv:(!(eqL s r))=v) (h:wpQuiet Tryz.prog ops (fun w'=>∃n,w'=W0.drewN n) Q rest (a.put o.dst (.bool v))):wpQuiet Tryz.prog ops (fun w'=>∃n,w'=W0.drewN n) Q (o::rest) a:=by
 subst hv
 rw [wpQuiet,if_pos hw]
 refine ⟨_,?_,h⟩
 rintro w ⟨n,rfl⟩
 have hm:Tryz.prog.eqGuardType Tryz.prog.depth 200=false:=by kernel_rfl
 have hr:=zfD s r (W0.drewN n)
 have hg:=run_eqGuard_agg (P:=Tryz.prog) (W0.drewN n) .neq 200 x y (lnC s).toArray (lnC r).toArray hm
 unfold Oper.quietAt execOp
 simp only [ho,hx,hy,Sem.run_bind,hg,hr,Result.andThen_ok]
 exact ⟨rfl,rfl⟩
theorem zms (l:List Value) (z:Array Value) (h:z.size=l.length):l.zipIdx.foldl (fun cs x=>cs.setIfInBounds x.2 x.1) z=l.toArray:=by
 have key:∀(m p:List Value) (z:Array Value),z.size=p.length+m.length->z.toList.take p.length=p->((m.zipIdx p.length).foldl (fun cs x=>cs.setIfInBounds x.2 x.1) z).toList=p++m:=by
  intro m
  induction m with
  | nil =>
   intro p z h1 h2
   simp only [List.zipIdx_nil,List.foldl_nil,ZF]
   rw [<-h2,Zs (by simp at h1;simp;omega)]
  | cons x m ih =>
   intro p z h1 h2
   rw [List.zipIdx_cons,List.foldl_cons]
   have h3:=ih (p++[x]) (z.setIfInBounds p.length x) (by simp at h1 ⊢;omega) (by
    simp only [Zc,Zk,List.length_nil,Array.toList_setIfInBounds]
    rw [List.take_add_one,List.take_set,List.set_eq_of_length_le (by simp;omega),h2,List.getElem?_set_self (by simp at h1 ⊢;omega)]
    rfl)
   rw [Zc] at h3
   simpa using h3
 have:=key l [] z (by simpa using h) rfl
 rw [<-Array.toList_inj]
 simpa using this
theorem zeb (wr:World) (t:TypeId):(wr.alloc (.cells (lnC []).toArray t)).there wr.heap.size 0 65:=by
 have h1:(wr.alloc (.cells (lnC []).toArray t)).heap[wr.heap.size]?=some (.cells (lnC []).toArray t):=heap_alloc_new wr _
 intro j hj
 refine ⟨?_,?_⟩
 ·rw [cell_of_row _ wr.heap.size _ _ t (0,0) h1,List.getElem?_toArray,Zf (by rw [za2];omega)]
  rfl
 ·simp only [World.frozen?]
  rw [h1]
  simp
theorem zmQ (wr:World) (t:TypeId) (r:List Bool):Ext wr ((wr.alloc (.cells (lnC []).toArray t)).setCells wr.heap.size 0 (lnC r))/\((wr.alloc (.cells (lnC []).toArray t)).setCells wr.heap.size 0 (lnC r)).rangeAt wr.heap.size 0 (lnC r):=by
 refine ⟨?_,World.rangeAt_setCells_same _ _ _ _ (by rw [za2];exact zeb wr t)⟩
 exact But.below ((But.of_ext ((Ze wr).alloc _) (some wr.heap.size)).trans (zbF wr.heap.size (lnC r) 0 _)) (Zb _) (fun k e=>by cases e;exact Zb _)
theorem zlc (r:List Bool):(lnC r).toArray.size=65:=by rw [List.size_toArray,za2]
theorem zpx (r:List Bool):(lnC r).toArray.all (·.oneCell')=true:=all_oneCell_toArray (fun v hv=>shLn.one r v hv)
structure KdS (w0 wr:World) (Vn Vf Vs:Value) (y m:Nat) (S:List (List Bool)):Prop where
 ex:Ext w0 wr
 n:∃l,OwnV shI wr w0.heap.size 3 Vn y l
 f:∃l,OwnV shI wr w0.heap.size 3 Vf m l
 s:OwnV shLn wr w0.heap.size 200 Vs S.length S
 nf:∀b,Vn.ownBlock=some b->Vf.ownBlock≠some b
 ns:∀b,Vn.ownBlock=some b->Vs.ownBlock≠some b
 fs:∀b,Vf.ownBlock=some b->Vs.ownBlock≠some b
theorem KdS.ext {w0 wr w':World} {Vn Vf Vs:Value} {y m:Nat} {S:List (List Bool)} (h:KdS w0 wr Vn Vf Vs y m S) (hb:Ext wr w'):KdS w0 w' Vn Vf Vs y m S:=by
 obtain ⟨h1,⟨a,h2⟩,⟨b,h3⟩,h4,h5,h6,h7⟩:=h
 exact ⟨h1.trans hb,⟨a,h2.ext hb⟩,⟨b,h3.ext hb⟩,h4.ext hb,h5,h6,h7⟩
theorem zcA {α:Type} {S:Shp α} {w w':World} {B:Nat} {e:TypeId} {v u:Value} {k:Nat} {L:List α} (h:OwnV S w B e v k L) (hg:But u.ownBlock w w') (hd:∀b,v.ownBlock=some b->u.ownBlock≠some b):OwnV S w' B e v k L :=
 World.ownsRow.kept h hg (by
  cases hv:v.ownBlock with
  | none=>exact .inl rfl
  | some b=>exact .inr (fun e=>hd b hv e.symm))
theorem zaP {α:Type} {S:Shp α} {wx:World} {B:Nat} {e:TypeId} {u v v':Value} {k:Nat} {L:List α} (hu:OwnV S wx B e u k L) (hd:∀b,u.ownBlock=some b->v.ownBlock≠some b) (hg:v'.ownBlock=v.ownBlock∨v'.ownBlock=some wx.heap.size):∀b,u.ownBlock=some b->v'.ownBlock≠some b:=by
 intro b hb e
 rcases hg with h | h
 ·exact hd b hb (h.symm.trans e)
 ·rw [h] at e
  have:=(OwnV.blk hu b hb).2
  simp only [Option.some.injEq] at e
  omega
theorem zaF {u v:Value} (h:∀b,u.ownBlock=some b->v.ownBlock≠some b):∀b,v.ownBlock=some b->u.ownBlock≠some b:=fun b hb e=>h b e hb
theorem KdS.putS {w0 wr w':World} {Vn Vf Vs V':Value} {y m:Nat} {S:List (List Bool)} {l:List Bool} (h:KdS w0 wr Vn Vf Vs y m S) (ho:OwnV shLn w' w0.heap.size 200 V' (S.length+1) (S++[l])) (he:Ext w0 w') (hg:wr.grownBy w' Vs.ownBlock/\(V'.ownBlock=Vs.ownBlock∨V'.ownBlock=some wr.heap.size)) :
  KdS w0 w' Vn Vf V' y m (S++[l]):=by
 obtain ⟨h1,⟨a,h2⟩,⟨b,h3⟩,h4,h5,h6,h7⟩:=h
 have hl:(S++[l]).length=S.length+1:=by simp
 exact ⟨he,⟨a,zcA h2 hg.1 h6⟩,⟨b,zcA h3 hg.1 h7⟩,by rw [hl];exact ho,h5,zaP h2 h6 hg.2,zaP h3 h7 hg.2⟩
theorem KdS.putF {w0 wr w':World} {Vn Vf Vs V':Value} {y m:Nat} {S:List (List Bool)} {l:List Int} (h:KdS w0 wr Vn Vf Vs y m S) (ho:OwnV shI w' w0.heap.size 3 V' (m+1) l) (he:Ext w0 w') (hg:wr.grownBy w' Vf.ownBlock/\(V'.ownBlock=Vf.ownBlock∨V'.ownBlock=some wr.heap.size)) :
  KdS w0 w' Vn V' Vs y (m+1) S:=by
 obtain ⟨h1,⟨a,h2⟩,⟨b,h3⟩,h4,h5,h6,h7⟩:=h
 exact ⟨he,⟨a,zcA h2 hg.1 h5⟩,⟨l,ho⟩,zcA h4 hg.1 (zaF h7),zaP h2 h5 hg.2,h6,zaF (zaP h4 (zaF h7) hg.2)⟩
theorem KdS.putN {w0 wr w':World} {Vn Vf Vs V':Value} {y m:Nat} {S:List (List Bool)} {l:List Int} (h:KdS w0 wr Vn Vf Vs y m S) (ho:OwnV shI w' w0.heap.size 3 V' (y+1) l) (he:Ext w0 w') (hg:wr.grownBy w' Vn.ownBlock/\(V'.ownBlock=Vn.ownBlock∨V'.ownBlock=some wr.heap.size)) :
  KdS w0 w' V' Vf Vs (y+1) m S:=by
 obtain ⟨h1,⟨a,h2⟩,⟨b,h3⟩,h4,h5,h6,h7⟩:=h
 exact ⟨he,⟨l,ho⟩,⟨b,zcA h3 hg.1 (zaF h5)⟩,zcA h4 hg.1 (zaF h6),zaF (zaP h3 (zaF h5) hg.2),zaF (zaP h4 (zaF h6) hg.2),h7⟩
theorem zdn (b off c:Nat) (g:Gd) (hg:okG g) (hc:g.b.length<=c) (w:World) (hv:GridAt w (some ⟨b,off,none⟩) g) :
  Calls Tryz.prog 96 #[gridV (some ⟨b,off,none⟩) c g] w fun e w'=>∃A c1 A' c',e = .returned (.tuple #[.slice A g.h c1,.slice A' (kindsV (rowsG g) []).length c'])/\Ext w w':=by
 have aj:=Za (fun w' h=>zgl b off c g hg hc w' (hv.ext h))
 have av:=Za (fun y (h:y<g.h)=>zkX (g:=g) h)
 have aF:=Za (fun y (h:y<g.h)=>zgV (g:=g) h)
 have ap:=Za (fun y (h:y<g.h)=>za3 hg h)
 have aG:=Za (zcj g)
 have HW:=Za hg.2.1
 have HH:=Za hg.2.2.2.1
 obtain ⟨K,hK⟩:∃K,kindsV (rowsG g) []=K:=⟨_,rfl⟩
 have HK:=Za hK
 rw [hK]
 unfold gridV at aj ⊢
 obtain ⟨W,hW⟩:∃W,g.w=W:=⟨_,rfl⟩
 obtain ⟨H,hH⟩:∃H,g.h=H:=⟨_,rfl⟩
 obtain ⟨L,hL⟩:∃L,g.b.length=L:=⟨_,rfl⟩
 rw [hW] at ap HW aj
 rw [hH] at ap av aF aG HH aj
 rw [hL] at aj
 rw [hW,hH,hL]
 clear hW hH hL hv hg hK
 go_enter Tryz.func96,Tryz.ntmps96
 go_wp2_with (go_at_call 134;((with_reducible refine (aj.out _ zx).mono ?_);rintro e w1 ⟨B,c1,rfl,aN,aL⟩;have aZ:=Za aN;have aQ:=Za (show Ext w w1 from Zm zx aL);clear aN aL))
 go_loopw [2,3,4,11] (fun u2 u3 u4 i wr=>∃(Vn Vf Vs:Value) (y:Nat) (S:List (List Bool)),Vn=u2/\Vf=u3/\Vs=u4/\i = .int .i64 y/\y<=H/\S.length<=y/\Hid (KdS w1 wr Vn Vf Vs y S.length S)/\Hid (kindsV ((rowsG g).drop y) S=K)/\Hid (∀r∈S,r.length=W)) (fun _ _ _ i _=>H-(intOf i).toNat)
 case atStart=>exact ⟨_,_,_,0,[],rfl,rfl,rfl,rfl,ZK _,Zb _,Za ⟨Ze _,⟨[],OwnV.nil _ _ _ _⟩,⟨[],OwnV.nil _ _ _ _⟩,OwnV.nil _ _ _ _,by simp [Value.ownBlock],by simp [Value.ownBlock],by simp [Value.ownBlock]⟩,HK,Za (fun r hr=>by cases hr)⟩
 case round =>
  obtain ⟨Vn,Vf,Vs,y,S,rfl,rfl,rfl,rfl,hy,hS,HS,HG,aw⟩:=hrel
  by_cases hlt:y<H
  ·obtain ⟨r,hr⟩:∃r,g.row y=r:=⟨_,rfl⟩
   have aX:=Za (show w1.rangeAt B (0+y*65) (lnC r) from zea aZ.out (by rw [<-hr];exact aF.out y hlt))
   have aW:=Za (show wr.rangeAt B (y*65) (lnC r) from fun j v hv=>by
    have h9:=aX.out j v hv
    rw [Nat.zero_add] at h9
    exact (Zl (p:=⟨B,y*65+j,none⟩) HS.out.ex (Zn w1 _ h9)).trans h9)
   have q0:(0:Int)<=(y:Int):=by omega
   have q1:(y:Int)<(H:Int):=by omega
   go_upto_region 4 with fail
   go_wp2_with (first
    | (refine zcI (by rfl) (by rfl) ?_)
    | (refine wpList_load_mid (by rfl) 200 _ (by rfl) B (y*65) (by rfl) (lnC r) _ aW.out zeY (by rfl) (by rw [za2];exact zco) ?_)
    | (refine wpList_store_mid (by rfl) 200 _ _ (by rfl) wr.heap.size 0 (lnC r).toArray (by rfl) (by rfl) (by rw [zlc];exact zeb wr _) (by rw [zlc];exact zco) (zpx r) ?_))
   obtain ⟨hx2,aB⟩:=zmQ wr 200 r
   obtain ⟨w2,aO⟩:∃w2,(wr.alloc (.cells (lnC []).toArray 200)).setCells wr.heap.size 0 (lnC r)=w2:=⟨_,rfl⟩
   rw [aO] at hx2 aB ⊢
   have ay:=Za hx2
   have ak:=Za aB
   clear aO hx2 aB
   obtain ⟨As,cs,rfl,aM⟩:=zao HS.out.s
   obtain ⟨ln,aA⟩:=HS.out.n
   obtain ⟨lf,az⟩:=HS.out.f
   obtain ⟨An,cn,rfl, -⟩:=zao aA
   obtain ⟨Af,cf,rfl, -⟩:=zao az
   have aV:=Za aA
   have HOF:=Za az
   clear aA az
   have aH:=Za aM
   have hH64:=HH.out
   obtain ⟨X,hX⟩:∃X,wr.heap.size=X:=⟨_,rfl⟩
   rw [hX] at ak ⊢
   clear aM hX
   go_wp2_with fail
   obtain ⟨w3,rfl⟩:∃w3:World,w3=wr:=⟨_,rfl⟩
   have aY:=Za (show ∀k:Nat,k<S.length->eqL (S.getD k []) r=decide (S.getD k []=r) from fun k hk=>by
    have h8:(S.getD k [])∈S:=by rw [Zd,Zf hk];exact List.getElem_mem hk
    have h9:=aw.out _ h8
    have h10:r.length=W:=by rw [<-hr];exact ap.out y hlt
    exact zpd (by have:=HW.out;omega) (by omega))
   go_loopw [7] (fun kk wr=>∃k:Nat,kk = .int .i64 k/\k<=S.length/\Hid (∀j,j<k->S.getD j []≠r)/\Hid (Ext w2 wr)) (fun kk _=>S.length-(intOf kk).toNat)
   case atStart=>exact ⟨0,rfl,ZK _,Za (fun j hj=>absurd hj (Nat.not_lt_zero _)),Za (Ze _)⟩
   case round =>
    obtain ⟨k,rfl,hk,HA,HE⟩:=hrel
    by_cases hkl:k<S.length
    ·obtain ⟨bs,os,a0,hbs, -⟩:=aH.out.2 (by omega)
     subst a0
     obtain ⟨s,hs⟩:∃s,S.getD k []=s:=⟨_,rfl⟩
     have aC:S[k]?=some s:=by rw [<-hs,Zd,Zf hkl];rfl
     have aD:=Za (show wr.rangeAt bs (os+k*65) (lnC s) from zea (Vec.ext aH.out (ay.out.trans HE.out)) aC)
     have ao:=Za (show wr.rangeAt X 0 (lnC r) from fun j v hv=>(Zl (p:=⟨X,0+j,none⟩) HE.out (Zn w2 _ (ak.out j v hv))).trans (ak.out j v hv))
     have hq:=aY.out k hkl
     rw [hs] at hq
     have q2:(0:Int)<=(k:Int):=by omega
     have q3:(k:Int)<(S.length:Int):=by omega
     by_cases he:s=r
     ·have HN:=Za (show (!(eqL s r))=false by rw [hq,decide_eq_true he];rfl)
      have HM:=Za (zkp hkl (hs.trans he))
      have HC:=Za (show ¬k=S.length by omega)
      clear hq he hs aC
      go_wp2_with fail
      refine wp_region_quiet_lit (by kernel_rfl) (by kernel_rfl) ?_
      repeat (first
       | (refine zaL _ (by rfl) (by rfl) (by rfl) aD.out ?_)
       | (refine zaL _ (by rfl) (by rfl) (by rfl) ao.out ?_)
       | (refine zbO _ _ (by rfl) _ (by rfl) (by rfl) (by rfl) HN.out ?_)
       | quiet_step (fail))
      refine wpQuiet_nil ?_
      intro _ ah
      obtain ⟨nq,rfl⟩:=ah
      have HX9:=Za (show Ext w3 (wr.drewN nq) from (ay.out.trans HE.out).drewN nq)
      go_wp2_with (at_builtin;(refine zaa (S:=shI) (w:=w1) (m:=1) (xs:=[(k:Int)]) 51 3 (.int .i64 0) 8 (by rfl) (by rfl) Tryz.underlying51 zaJ (by rfl) (by omega) (by rfl) (by rfl) (aV.out.ext (HX9.out.alloc _)) ((HS.out.ex.trans HX9.out).alloc _) (Vec.lit2 (by simp) (by simp [shI]) rfl) (by omega) ?_;intro v6 w6 ab aa ac))
      have ai:=Za ((HS.out.ext (HX9.out.alloc _)).putN ab aa.out ac.out)
      have ar:=Za (show kindsV ((rowsG g).drop (y+1)) S=K by
       have h9:=HG.out
       rw [av.out y hlt,hr,zmK HM.out] at h9
       exact h9)
      go_roundw
      case rel=>exact ⟨v6,_,_,y+1,S,rfl,rfl,rfl,by go_num,by omega,by omega,ai,ar,aw⟩
      case measure=>simp [intOf];omega
     ·have HN:=Za (show (!(eqL s r))=true by rw [hq,ZU he];rfl)
      have aP:=Za (show ∀j,j<k+1->S.getD j []≠r from fun j hj=>by
       by_cases e:j=k
       ·subst e;rw [hs];exact he
       ·exact HA.out j (by omega))
      clear hq he hs aC
      go_wp2_with fail
      refine wp_region_quiet_lit (by kernel_rfl) (by kernel_rfl) ?_
      repeat (first
       | (refine zaL _ (by rfl) (by rfl) (by rfl) aD.out ?_)
       | (refine zaL _ (by rfl) (by rfl) (by rfl) ao.out ?_)
       | (refine zbO _ _ (by rfl) _ (by rfl) (by rfl) (by rfl) HN.out ?_)
       | quiet_step (fail))
      refine wpQuiet_nil ?_
      intro _ ah
      obtain ⟨nq,rfl⟩:=ah
      go_wp2_with fail
      go_roundw
      case rel=>exact ⟨k+1,by go_num,by omega,aP,Za (HE.out.drewN nq)⟩
      case measure=>simp [intOf];omega
    ·obtain rfl:k=S.length:=by omega
     have HM:=Za (ziD HA.out)
     have ao:=Za (show wr.rangeAt X 0 (lnC r) from fun j v hv=>(Zl (p:=⟨X,0+j,none⟩) HE.out (Zn w2 _ (ak.out j v hv))).trans (ak.out j v hv))
     go_wp2_with fail
     refine wp_region_quiet_lit (by kernel_rfl) (by kernel_rfl) ?_
     repeat (quiet_step (fail))
     refine wpQuiet_nil ?_
     intro _ ah
     obtain ⟨nq,rfl⟩:=ah
     have HX9:=Za (show Ext w3 (wr.drewN nq) from (ay.out.trans HE.out).drewN nq)
     have aE:=Za (show (wr.drewN nq).rangeAt X 0 (lnC r) from ao.out)
     have aq:=Za (HS.out.ext HX9.out)
     obtain ⟨w9,ah⟩:∃w9,wr.drewN nq=w9:=⟨_,rfl⟩
     rw [ah] at HX9 aE aq ⊢
     clear ah
     have hls:=za2 r
     go_wp2_with (first
      | (refine wpList_load_mid (by rfl) 200 _ (by rfl) X 0 (by rfl) (lnC r) _ aE.out zeY (by rfl) (by rw [za2];exact zco) ?_)
      | (at_builtin;(refine zaa (S:=shLn) (w:=w1) (m:=1) (xs:=[r]) 196 200 (.agg (lnC []).toArray) 72 (by rfl) (by rfl) Tryz.underlying196 zfn (by rfl) (by omega) (by rfl) (by rfl) ((aq.out.ext ((Ze _).alloc _)).s) (aq.out.ex.alloc _) (Vec.lit2 (by simp) (by simp [shLn];exact zms _ _ (by rw [za2];rfl)) rfl) (by omega) ?_;intro v6 w6 ab aa ac;have ai:=Za ((aq.out.ext ((Ze _).alloc _)).putS ab aa.out ac.out);obtain ⟨lf6,aI⟩:=ai.out.f;have aR:=Za aI;clear ab aa ac aI))
      | (at_builtin;(refine zaa (S:=shI) (w:=w1) (m:=1) (xs:=[(y:Int)]) 51 3 (.int .i64 0) 8 (by rfl) (by rfl) Tryz.underlying51 zaJ (by rfl) (by omega) (by rfl) (by rfl) (aR.out.ext ((Ze _).alloc _)) (ai.out.ex.alloc _) (Vec.lit2 (by simp) (by simp [shI]) rfl) (by omega) ?_;intro v7 w7 af ad al;have au:=Za ((ai.out.ext ((Ze _).alloc _)).putF af ad.out al.out);obtain ⟨ln7,aK⟩:=au.out.n;have aU:=Za aK;clear af ad al aK))
      | (at_builtin;(refine zaa (S:=shI) (w:=w1) (m:=1) (xs:=[(S.length:Int)]) 51 3 (.int .i64 0) 8 (by rfl) (by rfl) Tryz.underlying51 zaJ (by rfl) (by omega) (by rfl) (by rfl) (aU.out.ext ((Ze _).alloc _)) (au.out.ex.alloc _) (Vec.lit2 (by simp) (by simp [shI]) rfl) (by omega) ?_;intro v8 w8 ag ae am;have aT:=Za ((au.out.ext ((Ze _).alloc _)).putN ag ae.out am.out);clear ag ae am)))
     have ar:=Za (show kindsV ((rowsG g).drop (y+1)) (S++[r])=K by
      have h9:=HG.out
      rw [av.out y hlt,hr,zkd HM.out] at h9
      exact h9)
     have a1:(S++[r]).length=S.length+1:=by simp
     have ax:=Za (show ∀q∈S++[r],q.length=W from fun q hq=>by
      rcases ZQ.1 hq with h9 | h9
      ·exact aw.out q h9
      ·obtain rfl:q=r:=by simpa using h9
       rw [<-hr]
       exact ap.out y hlt)
     refine ⟨⟨v8,v7,v6,y+1,S++[r],rfl,rfl,rfl,by go_num,by omega,by omega,by rw [a1];exact aT,ar,ax⟩,?_⟩
     simp [intOf]
     omega
  ·obtain rfl:y=H:=by omega
   have aS:=Za (show S=K by
    have h9:=HG.out
    rw [ZE (by rw [aG.out];exact Zb _)] at h9
    exact h9)
   obtain ⟨l1,hl1⟩:=HS.out.n
   obtain ⟨l2,aJ⟩:=HS.out.f
   obtain ⟨An,cn,rfl, -⟩:=zao hl1
   obtain ⟨Af,cf,rfl, -⟩:=zao aJ
   clear hl1 aJ
   go_wp2_with fail
   go_ret2
   rw [<-aS.out]
   exact ⟨_,_,_,_,rfl,aQ.out.trans HS.out.ex⟩
end Go.Proofs.YtbjgpbojjhldaaaGreatDoor
/- factor.Count. -/
namespace Go.Proofs.YtbjgpbojjhldaaaGreatDoor
set_option maxRecDepth 100000
open Go.RowKit
def BothR (a b:Nat) (w:World) (e:Ending) (w':World):Prop:=∃A1 n1 c1 A2 c2 A3 n3 c3 A4 c4,e = .returned (.tuple #[.slice A1 n1 c1,.slice A2 a c2,.slice A3 n3 c3,.slice A4 b c4,.int .i64 0])/\Ext w w'
theorem zih (b off c:Nat) (g:Gd) (hg:okG g) (hc:g.b.length<=c) (w:World) (hv:GridAt w (some ⟨b,off,none⟩) g) :
  Calls Tryz.prog 58 #[gridV (some ⟨b,off,none⟩) c g] w (BothR (facV g).1 (facV g).2 w):=by
 have HT:=Za (fun w' h=>zj0 (some ⟨b,off,none⟩) c g hg w' (hv.ext h))
 have HK:=Za (fun w' h=>zdn b off c g hg hc w' (hv.ext h))
 have aa:=Za (fun b2 off2 c2 w' h1 h2=>zdn b2 off2 c2 (turnG g) (zh1 hg) h1 w' h2)
 have h1:(facV g).1=(kindsV (rowsG (turnG g)) []).length:=rfl
 have h2:(facV g).2=(kindsV (rowsG g) []).length:=rfl
 rw [h1,h2]
 obtain ⟨k1,ae⟩:∃k,(kindsV (rowsG (turnG g)) []).length=k:=⟨_,rfl⟩
 obtain ⟨k2,af⟩:∃k,(kindsV (rowsG g) []).length=k:=⟨_,rfl⟩
 rw [ae] at aa ⊢
 rw [af] at HK ⊢
 obtain ⟨t,ht⟩:∃t,turnG g=t:=⟨_,rfl⟩
 rw [ht] at HT aa
 clear hv hg ht h1 h2 ae af hc
 have ai:=Za (Tb.new w (.int .i64 (g.w:Int)) (.int .i64 (g.h:Int)) (.slice (some ⟨b,off,none⟩) g.b.length c) 54)
 unfold gridV at HT HK aa ⊢
 go_enter Tryz.func58,Tryz.ntmps58
 go_wp2_with (first
  | (go_at_call 95;((with_reducible refine (HT.out _ zx).mono ?_);rintro e w1 ⟨b1,o1,c1,rfl,ab,ah,hc1, -, -⟩;have am:=Za (show Ext w w1 from Zm zx ab);have aj:=Za (ai.out.ext ab);have al:=Za ah;have ak:=Za hc1;unfold gridV;clear ab ah hc1))
  | (go_at_call 96;(first
   | ((with_reducible refine (aa.out b1 o1 c1 _ ak.out (al.out.ext ((Ze w1).alloc _))).mono ?_);rintro e w2 ⟨A1,c2,A2,c3,rfl,ac⟩;have ad:=Za (am.out.trans (((Ze w1).alloc _).trans ac));obtain ⟨⟨d0,d1,d2⟩, -⟩:=aj.out.ext (((Ze w1).alloc _).trans ac);clear ac)
   | ((with_reducible refine (HK.out _ ad.out).mono ?_);rintro e w3 ⟨A3,c4,A4,c5,rfl,ag⟩;have ao:=Za (ad.out.trans ag);clear ag))))
 exact bodyPost_ret (v := .tuple #[.slice A1 t.h c2,.slice A2 k1 c3,.slice A3 g.h c4,.slice A4 k2 c5,.int .i64 0]) (by simp [results,Tryz.f58,go_sem]) rfl ⟨_,_,_,_,_,_,_,_,_,_,rfl,ao.out⟩
theorem zgk (b off c:Nat) (g:Gd) (hg:okG g) (hc:g.b.length<=c) (w:World) (hv:GridAt w (some ⟨b,off,none⟩) g) :
  Calls Tryz.prog 30 #[gridV (some ⟨b,off,none⟩) c g] w fun e w'=>e = .returned (.tuple #[.int .i64 ((facV g).1:Int),.int .i64 ((facV g).2:Int),.int .i64 0])/\Ext w w':=by
 have HB:=Za (fun w' h=>zih b off c g hg hc w' (hv.ext h))
 clear hv hg hc
 unfold gridV at HB ⊢
 go_enter Tryz.func30,Tryz.ntmps30
 go_wp2_with (go_at_call 58;((with_reducible refine (HB.out _ zx).mono ?_);rintro e w1 ⟨A1,n1,c1,A2,c2,A3,n3,c3,A4,c4,rfl,aa⟩))
 exact bodyPost_ret (v := .tuple #[.int .i64 ((facV g).1:Int),.int .i64 ((facV g).2:Int),.int .i64 0]) (by simp [results,Tryz.f30,go_sem]) rfl ⟨rfl,Zm zx aa⟩
end Go.Proofs.YtbjgpbojjhldaaaGreatDoor
/- repeat.Of. -/
namespace Go.Proofs.YtbjgpbojjhldaaaGreatDoor
set_option maxRecDepth 100000
open Go.RowKit Go.ChangeShapes Go.WideShapes Go.Joins
theorem Tb.set0 {w:World} {g:Nat} {a b c:Value} (h:Tb w g a b c) (v:Value):Tb (w.setCell ⟨g,0,none⟩ v) g v b c:=by
 obtain ⟨⟨h0,h1,h2⟩,f0,f1,f2⟩:=h
 exact ⟨⟨Zq _ _ _ h0,(Zg _ _ _ _ (by simp)).trans h1,(Zg _ _ _ _ (by simp)).trans h2⟩,
  (Zo _ _ _ _).trans f0,(Zo _ _ _ _).trans f1,(Zo _ _ _ _).trans f2⟩
theorem zmM {g:Gd} {f a:Nat} (h:repB g a 0=true):latA g (f+1) a=a:=by rw [latA,if_pos h]
theorem zps {g:Gd} {f a:Nat} (h:repB g a 0=false):latA g (f+1) a=latA g f (a+1):=by rw [latA,if_neg (by rw [h];simp)]
theorem zhz {g:Gd} {c f b:Nat} (h:repB g b c=true):latB g c (f+1) b=some b:=by rw [latB,if_pos h]
theorem zpu {g:Gd} {c f b:Nat} (h:repB g b c=false):latB g c (f+1) b=latB g c f (b+1):=by rw [latB,if_neg (by rw [h];simp)]
theorem zmN {g:Gd} {a f c b:Nat} (h:latB g c a 0=some b):latC g a (f+1) c=(b,c):=by rw [latC,h]
theorem zpv {g:Gd} {a f c:Nat} (h:latB g c a 0=none):latC g a (f+1) c=latC g a f (c+1):=by rw [latC,h]
theorem zno (b off c:Nat) (g:Gd) (hg:okG g) (hc:g.b.length<=c) (w:World) (hv:GridAt w (some ⟨b,off,none⟩) g) :
  Calls Tryz.prog 31 #[gridV (some ⟨b,off,none⟩) c g] w fun e w'=>e = .returned (.tuple #[.agg #[.int .i64 ((latV g).1:Int),.int .i64 ((latV g).2.1:Int),.int .i64 ((latV g).2.2:Int)],.int .i64 0])/\Ext w w':=by
 have ak:=Za (fun w'=>za1 (some ⟨b,off,none⟩) c g hg w')
 obtain ⟨h1,h2,h3,h4,h5⟩:=id hg
 have ah:=Za (fun (dx dy:Nat) (h1:dx<=500) (h2:dy<=500) (w':World) (h:Ext w w')=>ziO b off c dx dy g hg hc h1 h2 w' (hv.ext h))
 have ax:=Za (zhO g)
 have ai:latV g=(latA g g.w 1,latC g (latA g g.w 1) g.h 1):=rfl
 rw [ai]
 unfold gridV at ak ah ⊢
 obtain ⟨W,hW⟩:∃W,g.w=W:=⟨_,rfl⟩
 obtain ⟨H,hH⟩:∃H,g.h=H:=⟨_,rfl⟩
 rw [hW] at h1 h2
 rw [hH] at h3 h4
 simp only [hW,hH] at ah ak ax ⊢
 obtain ⟨L,hL⟩:∃L,g.b.length=L:=⟨_,rfl⟩
 rw [hL] at ak ah ⊢
 clear hW hH hL h5 hg hc hv ai
 obtain ⟨A,hA⟩:∃A,latA g W 1=A:=⟨_,rfl⟩
 have HA:=Za hA
 rw [hA]
 obtain ⟨BC,hBC⟩:∃BC,latC g A H 1=BC:=⟨_,rfl⟩
 have aI:=Za hBC
 rw [hBC]
 clear hA hBC
 have aK:=Za (Tb.new w (.int .i64 (W:Int)) (.int .i64 (H:Int)) (.slice (some ⟨b,off,none⟩) L c) 54)
 have aE:=Za (Tb.new (w.alloc (.cells #[.int .i64 (W:Int),.int .i64 (H:Int),.slice (some ⟨b,off,none⟩) L c] 54)) (.int .i64 0) (.int .i64 0) (.int .i64 0) 61)
 rw [ZP] at aE
 go_enter Tryz.func31,Tryz.ntmps31
 go_wp2_with fail
 go_step3
 go_wp2_with (first
  | (go_at_call 59;((with_reducible refine (ak.out _).mono ?_);rintro e w1 ⟨rfl,ao⟩;have ae:=Za ((aK.out.ext ((Ze _).alloc _)).ext ao);have aF:=Za (aE.out.ext ao);have az:=Za (show Ext w w1 from (((Ze w).alloc _).alloc _).trans ao);clear ao)))
 have au:=Za (Tb.new w1 (.int .i64 1) (.int .i64 0) (.int .i64 0) 61)
 obtain ⟨W2,aA⟩:∃W2,w1.alloc (.cells #[.int .i64 1,.int .i64 0,.int .i64 0] 61)=W2:=⟨_,rfl⟩
 have aO:=Za (show Ext w1 W2 by rw [<-aA];exact (Ze w1).alloc _)
 rw [aA] at au ⊢
 obtain ⟨O,hO⟩:∃O,w1.heap.size=O:=⟨_,rfl⟩
 have HO:=Za hO
 rw [hO] at au ⊢
 clear aA hO
 have aP:¬w.heap.size=O:=by have:=ae.out.lt;have:=HO.out;omega
 have hOG:¬O=w.heap.size:=fun e=>aP e.symm
 have aQ:¬w.heap.size+1=O:=by have:=aF.out.lt;have:=HO.out;omega
 have hOR:¬O=w.heap.size+1:=fun e=>aQ e.symm
 have am:=Za (show ∀(x y:World),Ext w1 x->Ext x y->∀k v,Ext w1 (y.setCell ⟨O,k,none⟩ v) from fun x y h1 h2 k v=>(h1.trans h2).set (Nat.le_of_eq HO.out) v)
 go_loopw [13] (fun _ wr=>∃(a f:Nat),a+f=W/\1<=a/\Hid (latA g (f+1) a=A)/\Hid (Tb wr O (.int .i64 (a:Int)) (.int .i64 0) (.int .i64 0))/\Hid (Ext w1 wr)) (fun _ wr=>W-(intOf ((wr.cell? ⟨O,0,none⟩).getD (.int .i64 0))).toNat)
 case atStart=>exact ⟨1,W-1,by omega,Zb _,Za (by rw [show W-1+1=W by omega];exact HA.out),au,aO⟩
 case round =>
  obtain ⟨a,f,haf,ha,ap,HL,HE⟩:=hrel
  obtain ⟨⟨l0,l1,l2⟩,y0,y1,y2⟩:=HL.out
  obtain ⟨⟨g0,g1,g2⟩, -⟩:=ae.out.ext HE.out
  have ag:=Za (fun w' (h:Ext wr w')=>ah.out a 0 (by omega) (by omega) w' (az.out.trans (HE.out.trans h)))
  obtain ⟨v,hv⟩:∃v,repB g a 0=v:=⟨_,rfl⟩
  rw [hv] at ag
  simp only [Int.natCast_zero] at ag
  cases v
  ·have HN:=Za ((zps (f:=f) hv).symm.trans ap.out)
   have aH:=Za (show a≠W from fun e=>by rw [e,ax.out.2] at hv;cases hv)
   clear hv
   go_wp2_with (go_at_call 60;((with_reducible refine (ag.out _ zx).mono ?_);rintro e w3 ⟨rfl,aa⟩;have ab:=Za (HL.out.ext aa);have al:=Za (HE.out.trans aa);obtain ⟨⟨d0,d1,d2⟩,z0,z1,z2⟩:=ab.out;clear aa l0 l1 l2 y0 y1 y2 g0 g1 g2))
   obtain ⟨f9,rfl⟩:∃f9,f=f9+1:=⟨f-1,by have:=aH.out;omega⟩
   have af:=Za (show Tb (w3.setCell ⟨O,0,none⟩ (.int .i64 ((a:Int)+1))) O (.int .i64 ((a+1:Nat):Int)) (.int .i64 0) (.int .i64 0) from by have h9:=ab.out.set0 (.int .i64 ((a:Int)+1));simpa using h9)
   refine ⟨⟨a+1,f9,by omega,by omega,HN,af,Za (am.out w1 w3 (Ze _) al.out _ _)⟩,?_⟩
   rw [af.out.1.1,HL.out.1.1]
   simp [intOf]
   omega
  ·have HN:=Za ((zmM (f:=f) hv).symm.trans ap.out)
   clear hv
   go_wp2_with (go_at_call 60;((with_reducible refine (ag.out _ zx).mono ?_);rintro e w3 ⟨rfl,aa⟩;have ab:=Za (HL.out.ext aa);have al:=Za (HE.out.trans aa);have aL:=Za (ae.out.ext (HE.out.trans aa));obtain ⟨⟨d0,d1,d2⟩,z0,z1,z2⟩:=ab.out;clear aa l0 l1 l2 y0 y1 y2 g0 g1 g2))
   go_step3
   go_wp2_with fail
   obtain rfl:a=A:=HN.out
   have af:=Za (ab.out.set2 (.int .i64 1))
   have aC:=Za (am.out w1 w3 (Ze _) al.out 2 (.int .i64 1))
   obtain ⟨W4,aG⟩:∃W4,w3.setCell ⟨O,2,none⟩ (.int .i64 1)=W4:=⟨_,rfl⟩
   rw [aG] at af aC ⊢
   clear aG d0 d1 d2 z0 z1 z2 HL HE ab al aL ag ap
   go_loopw [23] (fun _ wr=>∃(k f bb:Nat),k+f=H/\1<=k/\Hid (latC g a (f+1) k=BC)/\Hid (Tb wr O (.int .i64 (a:Int)) (.int .i64 (bb:Int)) (.int .i64 (k:Int)))/\Hid (Ext w1 wr)) (fun _ wr=>H-(intOf ((wr.cell? ⟨O,2,none⟩).getD (.int .i64 0))).toNat)
   case atStart=>exact ⟨1,H-1,0,by omega,Zb _,Za (by rw [show H-1+1=H by omega];exact aI.out),af,aC⟩
   case round =>
    obtain ⟨k,f2,bb,hkf,hk,aB,HL,HE⟩:=hrel
    obtain ⟨⟨l0,l1,l2⟩,y0,y1,y2⟩:=HL.out
    obtain ⟨⟨g0,g1,g2⟩, -⟩:=ae.out.ext HE.out
    have q0:(k:Int)<=(H:Int):=by omega
    go_wp2_with fail
    clear l0 l1 l2 y0 y1 y2 g0 g1 g2
    obtain ⟨wo,rfl⟩:∃wo:World,wo=wr:=⟨_,rfl⟩
    go_loopw [34] (fun xx wr=>∃(x f bb:Nat),xx = .int .i64 x/\x+f=a/\Hid (latB g k a 0=latB g k f x)/\Hid (Tb wr O (.int .i64 (a:Int)) (.int .i64 (bb:Int)) (.int .i64 (k:Int)))/\Hid (Ext w1 wr)) (fun xx _=>a-(intOf xx).toNat)
    case atStart=>exact ⟨0,a,bb,rfl,by omega,Za rfl,HL,HE⟩
    case round =>
     obtain ⟨x,f3,b3,rfl,hxf,aj,av,aq⟩:=hrel
     obtain ⟨⟨l0,l1,l2⟩,y0,y1,y2⟩:=av.out
     obtain ⟨⟨g0,g1,g2⟩, -⟩:=ae.out.ext aq.out
     rcases f3 with _ | f3
     ·obtain rfl:x=a:=by omega
      have hkH:k≠H:=fun e=>by
       have h9:=aj.out
       obtain ⟨a9,rfl⟩:∃a9,x=a9+1:=⟨x-1,by omega⟩
       rw [e,zhz ax.out.1] at h9
       cases h9
      have aJ:=Za ((zpv (f:=f2) aj.out).symm.trans aB.out)
      obtain ⟨f9,rfl⟩:∃f9,f2=f9+1:=⟨f2-1,by omega⟩
      go_wp2_with fail
      have ac:=Za (show Tb (wr.setCell ⟨O,2,none⟩ (.int .i64 ((k:Int)+1))) O (.int .i64 (x:Int)) (.int .i64 (b3:Int)) (.int .i64 ((k+1:Nat):Int)) from by have h9:=av.out.set2 (.int .i64 ((k:Int)+1));simpa using h9)
      refine ⟨⟨k+1,f9,b3,by omega,by omega,aJ,ac,Za (am.out w1 wr (Ze _) aq.out _ _)⟩,?_⟩
      rw [ac.out.1.2.2,HL.out.1.2.2]
      simp [intOf]
      omega
     ·have q1:(x:Int)<(a:Int):=by omega
      have aD:=Za (av.out.set1 (.int .i64 (x:Int)))
      have ad:=Za (am.out w1 wr (Ze _) aq.out 1 (.int .i64 (x:Int)))
      have aw:=Za (fun w' (h:Ext w1 w')=>ah.out x k (by omega) (by omega) w' (az.out.trans h))
      obtain ⟨v,hv⟩:∃v,repB g x k=v:=⟨_,rfl⟩
      rw [hv] at aw
      cases v
      ·have HN:=Za (aj.out.trans (zpu (f:=f3) hv))
       clear hv
       go_wp2_with (go_at_call 60;((with_reducible refine (aw.out _ ad.out).mono ?_);rintro e w3 ⟨rfl,aa⟩;have ac:=Za (aD.out.ext aa);have ar:=Za (ad.out.trans aa);clear aa))
       refine ⟨⟨x+1,f3,x,by go_num,by omega,HN,ac,ar⟩,?_⟩
       simp [intOf]
       omega
      ·have HN:=Za ((zmN (f:=f2) (aj.out.trans (zhz (f:=f3) hv))).symm.trans aB.out)
       clear hv
       go_wp2_with (go_at_call 60;((with_reducible refine (aw.out _ ad.out).mono ?_);rintro e w3 ⟨rfl,aa⟩;have ac:=Za (aD.out.ext aa);have ar:=Za (ad.out.trans aa);have aM:=Za (aF.out.ext (ad.out.trans aa));clear aa;obtain ⟨⟨d0,d1,d2⟩, -⟩:=ac.out;obtain ⟨⟨r0,r1,r2⟩,x0,x1,x2⟩:=aM.out))
       have hn:=HN.out
       subst hn
       have aN:=Za (az.out.trans ar.out)
       have ay:=Za (show w.heap.size<=w.heap.size+1 from Nat.le_succ _)
       rw [Exit.noGoto_ret]
       refine zbW (P:=Tryz.prog) (fn:=Tryz.f31) r0 r1 r2 fun WF hWF ⟨v0,v1,v2⟩=>?_
       refine bodyPost_ret (v := .tuple #[.agg #[.int .i64 (a:Int),.int .i64 (x:Int),.int .i64 (k:Int)],.int .i64 0]) (by simp [results,Tryz.f31,go_sem,v0,v1,v2]) rfl ⟨rfl,?_⟩
       rw [<-hWF]
       exact ((aN.out.set ay.out _).set ay.out _).set ay.out _
end Go.Proofs.YtbjgpbojjhldaaaGreatDoor
/- console.look. -/
namespace Go.Proofs.YtbjgpbojjhldaaaGreatDoor
set_option maxRecDepth 100000
open Go.RowKit
theorem zbE (g:Gd) (word:List UInt8):lookV (some g) word=if word=kCloth then (exB 10 47 (gtxV g),0) else if word=kHangs then (if hangV g then [121,101,115] else [110,111],0) else if word=kFactor then (listV [((facV g).1:Int),((facV g).2:Int)],0) else if word=kFloats then (listV [(longV g true:Int),(longV g false:Int)],0) else (listV [((latV g).1:Int),((latV g).2.1:Int),((latV g).2.2:Int)],0):=rfl
theorem zbD (S:Nat) (word:List UInt8) (st:Cs) (w:World) (hs:StAt w S st) (hc:st.c=none) :
  Calls Tryz.prog 65 #[.pointer (some ⟨S,0,none⟩),.string ⟨word.toArray⟩] w (AnsR w (lookV st.c word)):=by
 have HV:=Za (show lookV st.c word=([],6) by rw [hc];rfl)
 obtain ⟨hlt, -, -,⟨p,hp,hh⟩⟩:=id hs
 rw [hc] at hh
 obtain rfl:p=none:=hh
 clear hs hc
 go_enter Tryz.func65,Tryz.ntmps65
 go_wp2
 go_ret2
 rw [HV.out]
 exact ⟨rfl,zx⟩
theorem ziy (S:Nat) (st:Cs) (g:Gd) (w:World) (hG:Glob w) (hs:StAt w S st) (hc:st.c=some g) :
  Calls Tryz.prog 65 #[.pointer (some ⟨S,0,none⟩),.string ⟨kCloth.toArray⟩] w (AnsR w (lookV st.c kCloth)):=by
 have HV:=Za (show lookV st.c kCloth=(exB 10 47 (gtxV g),0) by rw [hc,zbE,if_pos rfl])
 have HGL:=Za hG
 obtain ⟨hlt, -, -,⟨p,hp,hh⟩⟩:=id hs
 rw [hc] at hh
 obtain ⟨G,b,off,c,rfl,hGS,hGl,hbS,hbl,g0,g1,g2,aa,ab,hok, -⟩:=hh
 have HT:=Za (show ∀w',Ext w w'->Calls Tryz.prog 108 #[.agg #[.int .i64 g.w,.int .i64 g.h,.slice (some ⟨b,off,none⟩) g.b.length c]] w' fun e w''=>e = .returned (.tuple #[.string ⟨(gtxV g).toArray⟩,.int .i64 0])/\Ext w' w'' from fun w' h=>zit (some ⟨b,off,none⟩) c g hok aa w' (ab.ext h))
 have ac:=zj1 hok (Zb g.h)
 have HR:=Za (show ∀w',Ext w w'->Calls Tryz.prog 109 #[.string ⟨(gtxV g).toArray⟩,.string ⟨#[10]⟩,.string ⟨#[47]⟩] w' fun e w''=>e = .returned (.string ⟨(exB 10 47 (gtxV g)).toArray⟩)/\Ext w' w'' from fun w' h=>zkT 10 47 (by decide) (gtxV g) (by rw [gtxV];omega) w' (HGL.out.ext h))
 obtain ⟨t,ht⟩:∃t,gtxV g=t:=⟨_,rfl⟩
 rw [ht] at HT HR HV
 clear hs hc ab hok ac ht hG
 go_enter Tryz.func65,Tryz.ntmps65
 go_wp2_with (first
  | (go_at_call 108;((with_reducible refine (HT.out _ zx).mono ?_);rintro e5 w5 ⟨rfl,hq5⟩;have HX5:=Za (show Ext w w5 from zx);clear hq5))
  | (go_at_call 109;((with_reducible refine (HR.out _ (HX5.out.trans zx)).mono ?_);rintro e6 w6 ⟨rfl,hq6⟩;have HX6:=Za (HX5.out.trans (show Ext w5 w6 from zx));clear hq6)))
 go_ret2
 rw [HV.out]
 exact ⟨rfl,HX6.out.trans zx⟩
theorem ziz (S:Nat) (st:Cs) (g:Gd) (w:World) (hs:StAt w S st) (hc:st.c=some g) :
  Calls Tryz.prog 65 #[.pointer (some ⟨S,0,none⟩),.string ⟨kHangs.toArray⟩] w (AnsR w (lookV st.c kHangs)):=by
 have hv:lookV st.c kHangs=(if hangV g then [121,101,115] else [110,111],0):=by rw [hc,zbE,if_neg (by decide),if_pos rfl]
 obtain ⟨hlt, -, -,⟨p,hp,hh⟩⟩:=id hs
 rw [hc] at hh
 obtain ⟨G,b,off,c,rfl,hGS,hGl,hbS,hbl,g0,g1,g2,hcap,aa,hok, -⟩:=hh
 have HT:=Za (show ∀w',Ext w w'->Calls Tryz.prog 32 #[.agg #[.int .i64 g.w,.int .i64 g.h,.slice (some ⟨b,off,none⟩) g.b.length c]] w' fun e w''=>e = .returned (.tuple #[.bool (hangV g),.int .i64 0])/\Ext w' w'' from fun w' h=>zgw b off c g hok w' (aa.ext h))
 obtain ⟨z,hz⟩:∃z,hangV g=z:=⟨_,rfl⟩
 rw [hz] at HT hv
 clear hs hc aa hok hz
 cases z
 ·have HV:=Za hv
  clear hv
  go_enter Tryz.func65,Tryz.ntmps65
  go_wp2_with (first
   | (go_at_call 32;((with_reducible refine (HT.out _ zx).mono ?_);rintro e5 w5 ⟨rfl,hq5⟩;have HX5:=Za (show Ext w w5 from zx);clear hq5)))
  go_ret2
  rw [HV.out]
  exact ⟨rfl,HX5.out.trans zx⟩
 ·have HV:=Za hv
  clear hv
  go_enter Tryz.func65,Tryz.ntmps65
  go_wp2_with (first
   | (go_at_call 32;((with_reducible refine (HT.out _ zx).mono ?_);rintro e5 w5 ⟨rfl,hq5⟩;have HX5:=Za (show Ext w w5 from zx);clear hq5)))
  go_ret2
  rw [HV.out]
  exact ⟨rfl,HX5.out.trans zx⟩
theorem zix {w:World} {g:Nat} (hg:g=w.heap.size) (r0 r1 r2:Int) (t:TypeId):Ints (w.alloc (.cells #[.int .i64 r0,.int .i64 r1,.int .i64 r2] t)) (some ⟨g,0,none⟩) 3 [r0,r1,r2]:=hg ▸ zdw w r0 r1 r2 t
theorem zqw (w:World) (u0 u1:Value) (t:TypeId):(w.alloc (.cells #[u0,u1] t)).cell? ⟨w.heap.size,0,none⟩=some u0/\(w.alloc (.cells #[u0,u1] t)).cell? ⟨w.heap.size,1,none⟩=some u1:=by
 have h:(w.alloc (.cells #[u0,u1] t)).heap[w.heap.size]?=some (.cells #[u0,u1] t):=heap_alloc_new w _
 refine ⟨?_,?_⟩ <;> rw [cell_of_row _ w.heap.size _ _ t (0,0) h] <;> rfl
theorem zkk (w:World) (r0 r1:Int) (t:TypeId):Ints (w.alloc (.cells #[.int .i64 r0,.int .i64 r1] t)) (some ⟨w.heap.size,0,none⟩) 2 [r0,r1]:=by
 obtain ⟨h0,h1⟩:=zqw w (.int .i64 r0) (.int .i64 r1) t
 refine ⟨rfl,fun _=>⟨w.heap.size,0,rfl,by simp,fun j hj=>?_⟩⟩
 match j,hj with
 | 0,_=>exact h0
 | 1,_=>exact h1
theorem zgD (S:Nat) (st:Cs) (g:Gd) (w:World) (hG:Glob w) (hs:StAt w S st) (hc:st.c=some g) :
  Calls Tryz.prog 65 #[.pointer (some ⟨S,0,none⟩),.string ⟨kFactor.toArray⟩] w (AnsR w (lookV st.c kFactor)):=by
 have HV:=Za (show lookV st.c kFactor=(listV [((facV g).1:Int),((facV g).2:Int)],0) by rw [hc,zbE,if_neg (by decide),if_neg (by decide),if_pos rfl])
 have HGL:=Za hG
 obtain ⟨hlt, -, -,⟨p,hp,hh⟩⟩:=id hs
 rw [hc] at hh
 obtain ⟨G,b,off,c,rfl,hGS,hGl,hbS,hbl,g0,g1,g2,aa,ab,hok, -⟩:=hh
 have HT:=Za (show ∀w',Ext w w'->Calls Tryz.prog 30 #[.agg #[.int .i64 g.w,.int .i64 g.h,.slice (some ⟨b,off,none⟩) g.b.length c]] w' fun e w''=>e = .returned (.tuple #[.int .i64 ((facV g).1:Int),.int .i64 ((facV g).2:Int),.int .i64 0])/\Ext w' w'' from fun w' h=>zgk b off c g hok aa w' (ab.ext h))
 have HB:=Za (zfc hok)
 obtain ⟨r0,ac⟩:∃t,((facV g).1:Int)=t:=⟨_,rfl⟩
 obtain ⟨r1,ad⟩:∃t,((facV g).2:Int)=t:=⟨_,rfl⟩
 rw [ac,ad] at HT HV HB
 clear hs hc ab hok ac ad hG
 go_enter Tryz.func65,Tryz.ntmps65
 go_wp2_with (first
  | (go_at_call 30;((with_reducible refine (HT.out _ zx).mono ?_);rintro e5 w5 ⟨rfl,hq5⟩;have HX5:=Za (show Ext w w5 from zx);clear hq5))
  | (go_at_call 110;((with_reducible refine (zaE 2 _ _ [r0,r1] (by decide) HB.out _ (HGL.out.ext (HX5.out.trans zx)) ((zkk _ r0 r1 _).ext zx)).mono ?_);rintro e6 w6 ⟨rfl,hq6⟩;have HX6:=Za (HX5.out.trans (show Ext w5 w6 from zx));clear hq6)))
 go_ret2
 rw [HV.out]
 exact ⟨rfl,HX6.out.trans zx⟩
theorem zgF (S:Nat) (st:Cs) (g:Gd) (w:World) (hG:Glob w) (hs:StAt w S st) (hc:st.c=some g) :
  Calls Tryz.prog 65 #[.pointer (some ⟨S,0,none⟩),.string ⟨kRepeat.toArray⟩] w (AnsR w (lookV st.c kRepeat)):=by
 have HV:=Za (show lookV st.c kRepeat=(listV [((latV g).1:Int),((latV g).2.1:Int),((latV g).2.2:Int)],0) by rw [hc,zbE,if_neg (by decide),if_neg (by decide),if_neg (by decide),if_neg (by decide)])
 have HGL:=Za hG
 obtain ⟨hlt, -, -,⟨p,hp,hh⟩⟩:=id hs
 rw [hc] at hh
 obtain ⟨G,b,off,c,rfl,hGS,hGl,hbS,hbl,g0,g1,g2,aa,ab,hok, -⟩:=hh
 have HT:=Za (show ∀w',Ext w w'->Calls Tryz.prog 31 #[.agg #[.int .i64 g.w,.int .i64 g.h,.slice (some ⟨b,off,none⟩) g.b.length c]] w' fun e w''=>e = .returned (.tuple #[.agg #[.int .i64 ((latV g).1:Int),.int .i64 ((latV g).2.1:Int),.int .i64 ((latV g).2.2:Int)],.int .i64 0])/\Ext w' w'' from fun w' h=>zno b off c g hok aa w' (ab.ext h))
 have HB:=Za (zfs hok)
 obtain ⟨r0,ac⟩:∃t,((latV g).1:Int)=t:=⟨_,rfl⟩
 obtain ⟨r1,ad⟩:∃t,((latV g).2.1:Int)=t:=⟨_,rfl⟩
 obtain ⟨r2,ae⟩:∃t,((latV g).2.2:Int)=t:=⟨_,rfl⟩
 rw [ac,ad,ae] at HT HV HB
 clear hs hc ab hok ac ad ae hG
 go_enter Tryz.func65,Tryz.ntmps65
 go_wp2_with (first
  | (go_at_call 31;((with_reducible refine (HT.out _ zx).mono ?_);rintro e5 w5 ⟨rfl,hq5⟩;have HX5:=Za (show Ext w w5 from zx);clear hq5))
  | (go_at_call 110;((with_reducible refine (zaE 3 _ _ [r0,r1,r2] (by decide) HB.out _ (HGL.out.ext (HX5.out.trans zx)) (zix (by simp) r0 r1 r2 _)).mono ?_);rintro e6 w6 ⟨rfl,hq6⟩;have HX6:=Za (HX5.out.trans (show Ext w5 w6 from zx));clear hq6)))
 go_ret2
 rw [HV.out]
 exact ⟨rfl,HX6.out.trans zx⟩
end Go.Proofs.YtbjgpbojjhldaaaGreatDoor
