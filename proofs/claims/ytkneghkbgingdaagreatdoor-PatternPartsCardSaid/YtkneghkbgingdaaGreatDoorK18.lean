/- The contracts of twin of rows, both. -/
import Derived.Test.YtkneghkbgingdaaGreatDoorK17
set_option maxHeartbeats 16000000
namespace Go.Proofs.YtkneghkbgingdaaGreatDoor
set_option maxRecDepth 100000
open Go.RowKit Go.ChangeShapes Go.WideShapes Go.Joins
def RowsR (l:List Ro) (w:World) (e:Ending) (w':World):Prop:=∃v,e = .returned v∧Ext w w'∧OwnR w' w.heap.size 75 v l.length l
theorem zmM:∀(xs:List Raw) (k:Nat) (A:Option Addr) (n c:Nat),k<xs.length→(xs.flatMap shRaw.cells).set (k*2+1) (.slice A n c)=(xs.set k ⟨(xs.getD k raw0).b,A,n,c⟩).flatMap shRaw.cells:=by
 intro xs
 induction xs with
 | nil=>intro k A n c h;simp at h
 | cons x xs ih =>
  intro k A n c h
  cases k with
  | zero=>rfl
  | succ k =>
   have:=ih k A n c (by simpa using h)
   have e:(k+1)*2+1=(k*2+1)+1+1:=by omega
   rw [List.flatMap_cons,e,List.set_cons_succ,List.flatMap_cons]
   show Value.bool x.b::Value.slice x.A x.n x.c::((xs.flatMap shRaw.cells).set (k*2+1) (.slice A n c))=_
   rw [this]
   rfl
theorem zg2 {xs:List Raw} {k j:Nat} (x:Raw) (hk:k<xs.length):(xs.set k x).getD j raw0=if j=k then x else xs.getD j raw0:=by
 rw [Zc,List.getElem?_set]
 by_cases h:k=j
 ·subst h
  rw [if_pos rfl,if_pos hk,if_pos rfl];rfl
 ·rw [if_neg h,if_neg (fun e=>h e.symm),←Zc]
theorem zln:(Tryz.prog.info? 75).map (·.size)=some 2:=by kernel_rfl
theorem zm3:(Tryz.prog.info? 132).map (·.size)=some 4:=by kernel_rfl
theorem OwnV.but {α:Type} {S:Shp α} {w w':World} {B:Nat} {e:TypeId} {v:Value} {k:Nat} {L:List α} {E:Option Nat} (h:OwnV S w B e v k L) (hb:But E w w') (hne:v.ownBlock=none∨v.ownBlock≠E):OwnV S w' B e v k L:=World.ownsRow.kept h hb hne
theorem zk7 {w:World} {B g n c k:Nat} {e:TypeId} {xs:List Raw} (h:OwnV shRaw w B e (.slice (some ⟨g,0,none⟩) n c) n xs) (hk:k<n):∃u,w.cell? ⟨g,k*2+1,none⟩=some u:=by
 have h1:=World.ownsRow.cellAt h (k*2+1) (by show k*2+1<n*2;omega)
 have h2:=zcR (S:=shRaw) xs k 1 (by show 1<2;omega)
 rw [show k*shRaw.size+1=k*2+1 from rfl] at h2
 rw [h1,h2,zgL (by rw [h.len];exact hk)]
 exact ⟨_,rfl⟩
set_option maxRecDepth 100000 in
theorem zeQ (A:Option Addr) (n c:Nat) (l:List Ro) (w:World) (hr:Rws w (fun _=>True) A n l) (hn:n≤1000) (hcl:∀k,k<n→(l.getD k ro0).cells.length≤1000) :
  Calls Tryz.prog 87 #[.slice A n c] w (RowsR l w):=by
 have hl:=hr.len
 obtain ⟨hmm,raws,hrv, -,hros⟩:=hr
 have HR:=Za (show Rws w (fun _=>True) A n l from ⟨hmm,raws,hrv,fun _ _ _ _=>trivial,hros⟩)
 have HRV:=Za hrv
 have HROS:=Za hros
 have HL:=Za hl
 have HCL:=Za hcl
 have HRL:=Za hrv.1
 have HSRC:=Za (show 0<n→∃ad,A=some ad∧∀j u,(raws.flatMap shRaw.cells)[j]?=some u→w.cell? (ad.add j)=some u from fun h=>by
  obtain ⟨b,off,e,_,_⟩:=hrv.2 h
  subst e
  exact ⟨_,rfl,hrv.cells_at⟩)
 clear hl hmm hrv hros hcl
 go_enter Tryz.func87,Tryz.ntmps87
 go_wp2_with (first
  | (at_make;refine zaO 22 75 (.agg #[.bool false,.slice none 0 0]) 2 32 n w.heap.size (by rfl) (by rfl) Tryz.underlying22 zbO (by rfl) (by omega) (by omega) (Zf _) ?_;intro w1 HO1 HE1 hlt1)
  | (refine zds (cs:=raws.flatMap shRaw.cells) 75 2 22 22 (by rfl) (by rfl) Tryz.underlying22 zln (by rfl) (by rfl) HO1.out (by rw [za1,HRL.out];rfl) (fun h=>by obtain ⟨ad,h1,h2⟩:=HSRC.out h;exact ⟨ad,h1,fun j u hu=>by have h3:=h2 j u hu;exact (Zm HE1.out (Zo w _ h3)).trans h3⟩) (fun u hu=>by obtain ⟨y,_,hy⟩:=ZL.1 hu;exact shRaw.one y u hy) ?_;intro w2 HO2 HB2))
 have HE2:=Za (show Ext w w2 from But.below (But.trans (But.of_ext HE1.out _) HB2.out) (Zf _) (fun k e=>by cases e;exact Zf _))
 have HO3:=Za (show OwnV shRaw w2 w.heap.size 75 (.slice (some ⟨w.heap.size,0,none⟩) n n) n raws from HO2.out)
 have hlt2:w.heap.size<w2.heap.size:=Zt hlt1 HB2.out.size
 have HE0:=Za (Zd w)
 clear hlt1
 go_loopw [14] (fun i wr=>∃(k:Nat) (xs:List Raw),i = .int .i64 k∧k≤n∧xs.length=n∧Hid (OwnV shRaw wr w.heap.size 75 (.slice (some ⟨w.heap.size,0,none⟩) n n) n xs∧(∀j,j<k→RoAt wr (fun b=>w.heap.size<b∧∀o,wr.frozen? ⟨b,o,none⟩=false) (xs.getD j raw0) (l.getD j ro0))∧(∀j,k≤j→xs.getD j raw0=raws.getD j raw0))∧Hid (Ext w wr)∧w.heap.size<wr.heap.size) (fun i _=>n-(intOf i).toNat)
 case atStart=>exact ⟨0,raws,rfl,Zu _,HRL.out,Za ⟨HO3.out,fun j hj=>absurd hj (by omega),fun j _=>rfl⟩,HE2,hlt2⟩
 case round =>
  obtain ⟨k,xs,rfl,hk,hxl,HX,HE,hltr⟩:=hrel
  have hx:=HE.out
  by_cases hlt:k<n
  ·obtain ⟨b,off,A',n',c',rfl,hb0, -,d0,d1,hv,hm',hby, -⟩:=(HR.out.ext hx).at_ hlt
   have hcn:=HCL.out k hlt
   rw [hv.1] at hcn
   have q0:(0:Int)≤(k:Int):=by omega
   have q1:(k:Int)<(n:Int):=by omega
   have HW:=Za hv
   have HBY:=Za hby
   have HM:=Za hm'
   clear hv hby hm'
   generalize hrow:l.getD k ro0=row at *
   have HROW:=Za hrow
   clear hrow
   obtain ⟨rb,rc⟩:=row
   simp only at d0
   -- the cell of the row that is written
   have hxb:(xs.getD k raw0).b=rb:=by
    have h1:=(HROS.out.2 k (by rw [HL.out];exact hlt)).1
    rw [←HX.out.2.2 k (Zf _),HROW.out] at h1
    exact h1
   have HXB:=Za hxb
   clear hxb
   obtain ⟨wq,rfl⟩:∃wq:World,wq=wr:=⟨_,rfl⟩
   have HOW:=Za HX.out.1
   obtain ⟨u7,hc7⟩:=zk7 HOW.out hlt
   have hf7:=World.ownsRow.frozenAt HOW.out (k*2+1)
   go_wp2_with (first
    | (at_make;refine zaO 73 132 (.agg #[.int .u8 0,.bool false,.int .i64 0,.int .i64 0]) 4 24 n' w.heap.size (by rfl) (by rfl) Tryz.underlying73 za7 (by rfl) (by omega) (by omega) (by simp;omega) ?_;intro w3 HO4 HE4 hlt4;have hq9:=HE4.out.facts;obtain ⟨hf1,hf2,hf3⟩:=hq9;have HO5:=Za (OwnV.ext (OwnV.alloc HOW.out _) HE4.out)))
   -- the cells are copied
   have hex:Ext wq w3:=Zb ((Zd wq).alloc _) HE4.out
   have hz3:wq.heap.size+1<w3.heap.size:=by have:=hlt4;simp at this;exact this
   have hc8:w3.cell? ⟨w.heap.size,k*2+1,none⟩=some u7:=(Zm (p:=⟨w.heap.size,k*2+1,none⟩) hex hltr).trans hc7
   have hc9:w3.cell? ⟨wq.heap.size,1,none⟩=some (.slice A' n' c'):=by rw [hf1 _ _ (by simp)];simp [go_sem]
   have g1:=ZK w3 ⟨w.heap.size,k*2+1,none⟩ (.slice (some ⟨wq.heap.size+1,0,none⟩) n' n') hc8
   have g2:=(Zj w3 ⟨w.heap.size,k*2+1,none⟩ ⟨wq.heap.size,1,none⟩ (.slice (some ⟨wq.heap.size+1,0,none⟩) n' n') (by intro e;have e2:=congrArg Addr.block e;simp at e2;omega)).trans hc9
   have hbw:But (some w.heap.size) wq (w3.setCell ⟨w.heap.size,k*2+1,none⟩ (.slice (some ⟨wq.heap.size+1,0,none⟩) n' n')):=(But.of_ext hex _).own rfl _
   have hews:Ext w (w3.setCell ⟨w.heap.size,k*2+1,none⟩ (.slice (some ⟨wq.heap.size+1,0,none⟩) n' n')):=Zi (hx.trans hex) (by simp) _
   have ho4:=HO4.out
   rw [ZI] at ho4
   have ho6:=World.ownsRow.kept (w':=w3.setCell ⟨w.heap.size,k*2+1,none⟩ (.slice (some ⟨wq.heap.size+1,0,none⟩) n' n')) (row:=some w.heap.size) ho4 ((But.refl (some w.heap.size) w3).own rfl _) (by right;simp [Value.ownBlock];omega)
   have ho5:=(World.ownsRow.stored (OwnV.ext (OwnV.alloc HOW.out _) HE4.out) (k*2+1) (.slice (some ⟨wq.heap.size+1,0,none⟩) n' n')).1
   rw [zmM xs k (some ⟨wq.heap.size+1,0,none⟩) n' n' (by omega)] at ho5
   have hsz5:(w3.setCell ⟨w.heap.size,k*2+1,none⟩ (.slice (some ⟨wq.heap.size+1,0,none⟩) n' n')).heap.size=w3.heap.size:=by simp [World.setCell]
   obtain ⟨ws,hws⟩:∃ws,w3.setCell ⟨w.heap.size,k*2+1,none⟩ (.slice (some ⟨wq.heap.size+1,0,none⟩) n' n')=ws:=⟨_,rfl⟩
   rw [hws] at g1 g2 hbw hews ho6 ho5 hsz5 ⊢
   have hvs:Vec shSt ws A' n' rc:=by
    obtain ⟨b8,off8,A8,n8,c8,e8,_,_,_,f8,v8,_⟩:=HR.out.at_ hlt
    cases e8
    have h9:=(Zm (p:=⟨b,off+k*2+1,none⟩) hx (Zo w _ f8)).trans f8
    rw [d1] at h9
    cases h9
    rw [HROW.out] at v8
    exact v8.ext hews
   have HVS:=Za hvs
   have hlw1:w.heap.size<ws.heap.size:=by omega
   have hlw2:wq.heap.size<ws.heap.size:=by omega
   have hne1:some w.heap.size≠some (wq.heap.size+1):=by simp;omega
   have hne2:some wq.heap.size≠some (wq.heap.size+1):=by simp
   clear hws hf1 hf2 hf3 hc7 hf7 hc8 hc9
   have HO5:=Za ho5
   have HO6:=Za ho6
   have HBW:=Za hbw
   have HEWS:=Za hews
   clear ho5 ho6 hbw hews hex
   go_region_held3 (fun w'=>w'.cell? ⟨w.heap.size,k*2+1,none⟩=some (.slice (some ⟨wq.heap.size+1,0,none⟩) n' n')∧w'.cell? ⟨wq.heap.size,1,none⟩=some (.slice A' n' c')) (go_keep)
    (first | (refine zen (cs:=rc.flatMap stc) 132 4 73 73 (by rfl) (by rfl) Tryz.underlying73 zm3 (by rfl) (by rfl) HO6.out (by rw [show (rc.flatMap stc).length=rc.length*4 from za1 (S:=shSt) rc,HVS.out.1]) (fun h=>by obtain ⟨b9,off9,e9,_,_⟩:=HVS.out.2 h;subst e9;exact ⟨_,rfl,HVS.out.cells_at⟩) (fun u hu=>by obtain ⟨y,_,hy⟩:=ZL.1 hu;exact shSt.one y u hy) ?_;intro w5 HO7 HB7;have k1:=(But.cell HB7.out (p:=⟨w.heap.size,k*2+1,none⟩) hlw1 hne1).trans g1;have k2:=(But.cell HB7.out (p:=⟨wq.heap.size,1,none⟩) hlw2 hne2).trans g2))
   have HR5:=Za (show OwnV shRaw w5 w.heap.size 75 (.slice (some ⟨w.heap.size,0,none⟩) n n) n (xs.set k ⟨(xs.getD k raw0).b,some ⟨wq.heap.size+1,0,none⟩,n',n'⟩) from
    OwnV.but (w:=ws.drew) (OwnV.drew HO5.out) HB7.out (by right;simp [Value.ownBlock];omega))
   have HE5:=Za (show Ext w w5 from But.below (But.trans (But.of_ext (ZN HEWS.out) (some (wq.heap.size+1))) HB7.out) (Zf _) (fun k e=>by cases e;omega))
   have HK5:=Za (show ∀j,j<k+1→RoAt w5 (fun b=>w.heap.size<b∧∀o,w5.frozen? ⟨b,o,none⟩=false) ((xs.set k ⟨(xs.getD k raw0).b,some ⟨wq.heap.size+1,0,none⟩,n',n'⟩).getD j raw0) (l.getD j ro0) from fun j hj=>by
    rw [zg2 _ (by omega)]
    by_cases hjk:j=k
    ·subst hjk
     rw [if_pos rfl,HROW.out,HXB.out]
     refine ⟨rfl,Vec.of_own (show OwnV shSt w5 w.heap.size 132 (.slice (some ⟨wq.heap.size+1,0,none⟩) n' n') n' rc from HO7.out),HM.out,HBY.out,fun _ b9 off9 e9=>by cases e9;exact ⟨by omega,fun o=>World.ownsRow.frozenAt (show OwnV shSt w5 w.heap.size 132 (.slice (some ⟨wq.heap.size+1,0,none⟩) n' n') n' rc from HO7.out) o⟩⟩
    ·rw [if_neg hjk]
     refine (HX.out.2.1 j (by omega)).keep (by have:=HB7.out.size;have h2:=HBW.out.size;exact ZB h2 this) fun b9 hb9 ⟨hk8,hk9⟩=>⟨⟨hk8,fun o=>((But.frozen HB7.out (p:=⟨b9,o,none⟩) (Zt hb9 HBW.out.size) (by simp;omega)).trans (But.frozen HBW.out (p:=⟨b9,o,none⟩) hb9 (by simp;omega))).trans (hk9 o)⟩,fun o=>?_⟩
     have e1:=But.cell HBW.out (p:=⟨b9,o,none⟩) hb9 (by simp;omega)
     have e2:=But.cell HB7.out (p:=⟨b9,o,none⟩) (Zt hb9 HBW.out.size) (by simp;omega)
     exact e2.trans e1)
   have hlt5:w.heap.size<w5.heap.size:=Zt hlw1 HB7.out.size
   clear k1 k2 g1 g2
   go_wp2
   go_roundw
   case rel =>
    refine ⟨k+1,_,by go_num,by omega,by rw [List.length_set];exact hxl,Za ⟨HR5.out,HK5.out,fun j hj=>?_⟩,HE5,hlt5⟩
    rw [zg2 _ (by omega),if_neg (by omega)]
    exact HX.out.2.2 j (by omega)
   case measure=>simp [intOf];omega
  ·obtain rfl:k=n:=by omega
   have HOK:=Za (show OwnR wr w.heap.size 75 (.slice (some ⟨w.heap.size,0,none⟩) k k) l.length l from by
    rw [HL.out]
    refine ⟨xs,HX.out.1,by rw [hxl,HL.out],fun j hj=>(HX.out.2.1 j (by rw [HL.out] at hj;exact hj)).keep (Zf _) fun b9 _ ⟨hk8,hk9⟩=>⟨⟨by omega,by simp [Value.ownBlock];omega,hk9⟩,fun _=>rfl⟩⟩)
   go_wp2
   go_ret
   exact ⟨_,rfl,hx,HOK.out⟩
end Go.Proofs.YtkneghkbgingdaaGreatDoor
/- The contract of the reference's Twin of rows. -/
namespace Go.Proofs.YtkneghkbgingdaaGreatDoor
set_option maxRecDepth 100000
open Go.RowKit Go.ChangeShapes Go.WideShapes Go.Joins
section
variable {α:Type} {S:Shp α} {P:Program} {ops:Array Oper} {rest:List Oper} {o:Oper} {a:Act} {K:Act→World→Prop} {Q:Exit→Act→World→Prop} {E:Prop} {w wx:World}
theorem zbm (T e:TypeId) (z:Value) (bytes:Nat) {s x:Operand} {v:Value} {k m c:Nat} {A:Option Addr} {L xs:List α}
  (hgd:o.guard=none) (ho:o.op = .call { callee := .builtin .append,args:=#[s,x],argTypes:=#[T,T] })
  (ht:P.underlying T=some (.slice e)) (hinfo:(P.info? e).map (fun i=>(i.zero,i.size,i.bytes))=some (some z,S.size,bytes)) (hzs:z.cells.size=S.size) (hby:bytes≤1000)
  (hs:a.eval s=v) (hx:a.eval x = .slice A m c) (hown:OwnV S wx w.heap.size e v k L) (hext:Ext w wx) (hxs:Vec S wx A m xs) (hk:k+m≤1000000)
  (h:∀v' w1,OwnV S w1 w.heap.size e v' (k+m) (L++xs)→Hid (Ext w w1)→Hid (wx.grownBy w1 v.ownBlock∧(v'.ownBlock=v.ownBlock∨v'.ownBlock=some wx.heap.size))→K (a.put o.dst v') w1) :
  if Region.wanted o (yielded ops a.tmps)=true then Oper.wp P o a wx K Q else E:=by
 have hw:Region.wanted o (yielded ops a.tmps)=true:=by simp [Region.wanted,hgd]
 rw [if_pos hw]
 exact zaP (news:=xs.flatMap S.cells) T e z S.size bytes ho ht hinfo hzs S.pos hby hs hx hown hext (by rw [za1,hxs.1])
  (fun hm=>by
   obtain ⟨b,off,hA,_,_⟩:=hxs.2 hm
   subst hA
   exact ⟨_,rfl,hxs.cells_at⟩) (fun u hu=>by obtain ⟨y,_,hy⟩:=ZL.1 hu;exact S.one y u hy) hk
  fun v' w' h2 h3 h4 h5=>h v' w' (by unfold OwnV;rw [Z2];exact h2) h3 ⟨h4,h5⟩
end
end Go.Proofs.YtkneghkbgingdaaGreatDoor
/- The contracts of Join of charts,both. -/
namespace Go.Proofs.YtkneghkbgingdaaGreatDoor
set_option maxRecDepth 100000
open Go.RowKit Go.ChangeShapes Go.WideShapes Go.Joins
def ChR (s:Int) (l:List Ro) (x:Int) (w:World) (e:Ending) (w':World):Prop:=∃(A:Option Addr) (n c:Nat),e = .returned (.tuple #[.agg #[.int .i64 s,.slice A n c],.int .i64 x])∧Ext w w'∧Rws w' (fun b=>w.heap.size≤b) A n l
theorem zeP {s:Int} {l:List Ro} (h:chkC s l=0):l.length≤100∧∀k,k<l.length→(l.getD k ro0).cells.length≤1000:=by
 refine ⟨(zb1 h).1,fun k hk=>?_⟩
 have:=(za6 (zgy (zb1 h).2.2.2 k hk).1).1
 omega
theorem CntR.out_ok {s:Int} {l:List Ro} {w w':World} {e:Ending} (h:CntR s l w e w') (h0:chkC s l=0):∃(A:Option Addr) (n c:Nat),e = .returned (.tuple #[.slice A n c,.int .i64 0])∧Ext w w'∧Ints w' A n (cntC s l)∧∀b off,A=some ⟨b,off,none⟩→w.heap.size≤b:=by
 obtain ⟨A,n,c,h1,h2,h3⟩:=h
 rw [h0] at h1
 obtain ⟨h3,h4⟩:=h3
 rw [if_pos h0] at h3
 exact ⟨A,n,c,h1,h2,h3,h4⟩
theorem CntR.out_no {s:Int} {l:List Ro} {w w':World} {e:Ending} (h:CntR s l w e w'):∃(A:Option Addr) (n c:Nat),e = .returned (.tuple #[.slice A n c,.int .i64 (chkC s l)])∧Ext w w':=by
 obtain ⟨A,n,c,h1,h2,h3⟩:=h
 exact ⟨A,n,c,h1,h2⟩
theorem zar {w:World} {g:Nat} {u0 u1 v0 v1:Value} (h0:w.cell? ⟨g,0,none⟩=some u0) (h1:w.cell? ⟨g,1,none⟩=some u1):(w.setCell ⟨g,0,none⟩ v0).cell? ⟨g,0,none⟩=some v0∧((w.setCell ⟨g,0,none⟩ v0).setCell ⟨g,1,none⟩ v1).cell? ⟨g,1,none⟩=some v1 :=
 ⟨ZK w ⟨g,0,none⟩ v0 h0,ZK _ ⟨g,1,none⟩ v1 ((Zj w ⟨g,0,none⟩ ⟨g,1,none⟩ v0 (by simp)).trans h1)⟩
theorem zej {w:World} {g B B' n:Nat} {A:Option Addr} {l:List Ro} {v0 v1:Value} (h:Rws w (fun b=>B≤b) A n l) (hg:g<B) (hB:B'≤B):Rws ((w.setCell ⟨g,0,none⟩ v0).setCell ⟨g,1,none⟩ v1) (fun b=>B'≤b) A n l:=by
 refine h.keep (Nat.le_of_eq (by simp)) fun b hb hk=>⟨ZB hB hk,fun o=>?_⟩
 have hk':B≤b:=hk
 have hne:¬(b=g):=by omega
 rw [Zj _ ⟨g,1,none⟩ ⟨b,o,none⟩ v1 (by simp <;> omega),Zj _ ⟨g,0,none⟩ ⟨b,o,none⟩ v0 (by simp <;> omega)]
end Go.Proofs.YtkneghkbgingdaaGreatDoor
/- The reference's Cut,Number and kind. -/
namespace Go.Proofs.YtkneghkbgingdaaGreatDoor
set_option maxRecDepth 100000
open Go.RowKit
theorem zm6 (l:List UInt8) (f k:Nat):(⟨l.toArray⟩:ByteArray).extract f k=⟨((l.drop f).take (k-f)).toArray⟩:=by
 apply ByteArray.ext
 apply Array.toList_inj.1
 rw [Lib.extract_data]
theorem zlo {c:UInt8} {l:List UInt8} {f:Nat} (h:c ∉ (l.drop f).take (l.length-f)):spl c (l.drop f)=[(l.drop f).take (l.length-f)]:=by
 have e:(l.drop f).take (l.length-f)=l.drop f:=Zz (by simp)
 rw [e] at h ⊢
 exact zbB h
theorem znU {c:UInt8} {l:List UInt8} {f k:Nat} (hf:f≤k) (hk:k<l.length) (h:c ∉ (l.drop f).take (k-f)) (hc:l.getD k 0=c):spl c (l.drop f)=(l.drop f).take (k-f)::spl c (l.drop (k+1)):=by
 have e:l.drop f=(l.drop f).take (k-f)++c::l.drop (k+1):=by
  conv=>lhs;rw [←Z9 (k-f) (l.drop f)]
  rw [List.drop_drop,show f+(k-f)=k by omega,Z4 hk]
  rw [Zc,Zg hk] at hc
  have hc:l[k]=c:=hc
  rw [hc]
 conv=>lhs;rw [e]
 rw [zaF h]
theorem zjL {c:UInt8} {l:List UInt8} {f k:Nat} (hf:f≤k) (hk:k<l.length) (h:c ∉ (l.drop f).take (k-f)) (hc:¬l.getD k 0=c):c ∉ (l.drop f).take (k+1-f):=by
 rw [show k+1-f=(k-f)+1 by omega,List.take_add_one]
 intro h9
 rcases Zw.1 h9 with h9 | h9
 ·exact h h9
 ·rw [Z6,show f+(k-f)=k by omega,Zg hk] at h9
  apply hc
  rw [Zc,Zg hk]
  simp at h9
  exact h9.symm
structure CutAt (c:UInt8) (l:List UInt8) (k f:Nat) (ws:List (List UInt8)):Prop where
 mid:k≤l.length→f≤k∧ws++spl c (l.drop f)=spl c l∧c ∉ (l.drop f).take (k-f)
 fin:k=l.length+1→ws=spl c l
theorem zbt (c:UInt8) (l:List UInt8) (hl:l.length≤100000) (w:World) :
  Calls Tryz.prog 31 #[.string ⟨l.toArray⟩,.int .u8 (c.toNat:Int)] w fun e w'=>∃v,e = .returned v∧OwnV shStr w' w.heap.size 9 v (spl c l).length (spl c l)∧Ext w w':=by
 have hx:=fun f k=>zm6 l f k
 go_enter Tryz.func31,Tryz.ntmps31
 go_wp2_with fail
 go_loopw [5,6,7] (fun u i j wr=>∃(V:Value) (f k m:Nat) (ws:List (List UInt8)),V=u∧i = .int .i64 f∧j = .int .i64 k∧k≤l.length+1∧f≤k∧m≤k∧Hid (OwnV shStr wr w.heap.size 9 V m ws)∧Hid (CutAt c l k f ws)∧Hid (Ext w wr)) (fun _ _ j _=>l.length+1-(intOf j).toNat)
 case atStart=>exact ⟨_,0,0,0,[],rfl,rfl,rfl,by omega,by omega,by omega,Za (OwnV.nil _ _ _ _),Za ⟨fun _=>⟨by omega,rfl,by simp⟩,fun h=>by omega⟩,Za (Zd _)⟩
 case round =>
  obtain ⟨V,f,k,m,ws,rfl,rfl,rfl,hk,hfk,hmk,HV,HC,HE⟩:=hrel
  have q0:(0:Int)≤(f:Int):=by omega
  have q1:(f:Int)≤(k:Int):=by omega
  have q9:(0:Int)≤(k:Int):=by omega
  by_cases h1:k=l.length+1
  ·subst h1
   have HF:=Za (HC.out.fin rfl)
   obtain rfl:m=ws.length:=(OwnV.len HV.out).symm
   have hno:¬((l.length:Int)+1≤(l.length:Int)):=by omega
   go_wp2_with fail
   go_ret
   exact ⟨V,rfl,by rw [←HF.out];exact HV.out,HE.out⟩
  ·obtain ⟨hf,hm,hn⟩:=HC.out.mid (by omega)
   have q2:(k:Int)≤(l.length:Int):=by omega
   by_cases h2:k=l.length
   ·subst h2
    have HL:=Za (zlo hn)
    rw [HL.out] at hm
    have HM:=Za hm
    clear hm hn HC HL hf
    go_wp2_with (at_builtin;(refine zab (S:=shStr) (w:=w) (m:=1) (xs:=[(l.drop f).take (l.length-f)]) 67 9 (.string ⟨#[]⟩) 16 (by rfl) (by rfl) Tryz.underlying67 zbx (by rfl) (by omega) (by rfl) (by rfl) (OwnV.ext HV.out (by repeat (first | exact Zd _ | refine Zl ?_ _))) (HE.out.trans (by repeat (first | exact Zd _ | refine Zl ?_ _))) (Vec.lit2 (by simp) rfl rfl) (by omega) ?_;intro v' w6 hown6 hext6 hgr6))
    have HN:=Za hown6
    clear hown6 hgr6
    go_roundw
    case rel=>exact ⟨v',l.length+1,l.length+1,m+1,_,rfl,by go_num,by go_num,by omega,by omega,by omega,HN,Za ⟨fun h=>by omega,fun _=>HM.out⟩,hext6⟩
    case measure=>simp [intOf] <;> omega
   ·have q3:(k:Int)<(l.length:Int):=by omega
    have h5:=zao l k
    have q7:((k:Int)==(l.length:Int))=false:=by rw [Ze];omega
    by_cases hc:l.getD k 0=c
    ·have HL:=Za (znU hf (by omega) hn hc)
     rw [HL.out] at hm
     have HM:=Za hm
     rw [hc] at h5
     clear hm hn HC HL hf hc
     go_wp2_with (at_builtin;(refine zab (S:=shStr) (w:=w) (m:=1) (xs:=[(l.drop f).take (k-f)]) 67 9 (.string ⟨#[]⟩) 16 (by rfl) (by rfl) Tryz.underlying67 zbx (by rfl) (by omega) (by rfl) (by rfl) (OwnV.ext HV.out (by repeat (first | exact Zd _ | refine Zl ?_ _))) (HE.out.trans (by repeat (first | exact Zd _ | refine Zl ?_ _))) (Vec.lit2 (by simp) rfl rfl) (by omega) ?_;intro v' w6 hown6 hext6 hgr6))
     have HN:=Za hown6
     clear hown6 hgr6
     go_roundw
     case rel=>exact ⟨v',k+1,k+1,m+1,_,rfl,by go_num,by go_num,by omega,by omega,by omega,HN,Za ⟨fun h=>⟨by omega,by rw [ZJ];exact HM.out,by simp⟩,fun h=>by omega⟩,hext6⟩
     case measure=>simp [intOf] <;> omega
    ·have hne:(((l.getD k 0).toNat:Int)==(c.toNat:Int))=false:=by rw [Ze];exact fun h=>hc (ZX.1 (by omega))
     have HN:=Za (zjL hf (by omega) hn hc)
     have HM:=Za hm
     generalize l.getD k 0=d at *
     clear hm hn HC hc
     go_wp2_with fail
     go_roundw
     case rel=>exact ⟨V,f,k+1,m,ws,rfl,rfl,by go_num,by omega,by omega,by omega,HV,Za ⟨fun h=>⟨by omega,HM.out,HN.out⟩,fun h=>by omega⟩,HE⟩
     case measure=>simp [intOf] <;> omega
end Go.Proofs.YtkneghkbgingdaaGreatDoor
/- The reference's Number and kind. -/
namespace Go.Proofs.YtkneghkbgingdaaGreatDoor
set_option maxRecDepth 100000
open Go.RowKit
theorem zfs {l:List UInt8} {k:Nat} (hk:k<l.length):valD (l.take (k+1))=10*valD (l.take k)+((l.getD k 0).toNat-48):=by
 rw [List.take_add_one,Zg hk,Zc,Zg hk]
 unfold valD
 rw [List.foldl_append]
 rfl
theorem zgv {l:List UInt8} {k:Nat} (hk:k<l.length):(l.take (k+1)).all isDg=((l.take k).all isDg && isDg (l.getD k 0)):=by
 rw [List.take_add_one,Zg hk,Zc,Zg hk]
 rw [List.all_append,show (some l[k]).toList=[l[k]] from rfl,List.all_cons,List.all_nil,Bool.and_true]
 rfl
theorem zh4 {l:List UInt8} {k:Nat} (hk:k<l.length) (h:isDg (l.getD k 0)=false):l.all isDg=false:=by
 rw [Bool.eq_false_iff]
 intro h9
 rw [Zc,Zg hk] at h
 have:=Zq.1 h9 l[k] (List.getElem_mem _)
 rw [show (some l[k]).getD 0=l[k] from rfl] at h
 rw [h] at this
 cases this
def numN (l:List UInt8):Int:=(((numS l).getD 0:Nat):Int)
def NumR (l:List UInt8) (w:World) (e:Ending) (w':World):Prop:=e = .returned (.tuple #[.int .i64 (numN l),.bool (numS l).isSome])∧Ext w w'
theorem zdg {l:List UInt8} {w w':World} (h:numS l=none) (hb:Ext w w'):NumR l w (.returned (.tuple #[.int .i64 0,.bool false])) w':=by
 refine ⟨?_,hb⟩
 unfold numN
 rw [h]
 rfl
theorem ziV {l:List UInt8} {n:Nat} {w w':World} (h:numS l=some n) (hb:Ext w w'):NumR l w (.returned (.tuple #[.int .i64 (n:Int),.bool true])) w':=by
 refine ⟨?_,hb⟩
 unfold numN
 rw [h]
 rfl
theorem zad (l:List UInt8) (hl:l.length≤100000) (w:World):Calls Tryz.prog 83 #[.string ⟨l.toArray⟩] w (NumR l w):=by
 by_cases h0:l.length=0
 ·have HN:=Za (show numS l=none by rw [numS,if_pos (.inl h0)])
  have q:(l.length:Int)=0:=by omega
  go_enter Tryz.func83,Tryz.ntmps83
  go_wp2_with fail
  go_ret2
  exact zdg HN.out (Zd _)
 by_cases h4:4<l.length
 ·have HN:=Za (show numS l=none by rw [numS,if_pos (.inr (.inl h4))])
  have q:(4:Int)<(l.length:Int):=by omega
  have q0:¬((l.length:Int)=0):=by omega
  go_enter Tryz.func83,Tryz.ntmps83
  go_wp2_with fail
  go_ret2
  exact zdg HN.out (Zd _)
 have p0:¬((l.length:Int)=0):=by omega
 have p4:¬((4:Int)<(l.length:Int)):=by omega
 have h50:=zao l 0
 by_cases h1:1<l.length
 ·have p1:(1:Int)<(l.length:Int):=by omega
  by_cases hz:l.getD 0 0=48
  ·have hh:l.head?=some 48:=by
    rw [List.head?_eq_getElem?,Zg (by omega)]
    rw [Zc,Zg (by omega)] at hz
    exact congrArg some hz
   have HN:=Za (show numS l=none by rw [numS,if_pos (.inr (.inr ⟨h1,hh⟩))])
   clear hh
   rw [hz] at h50
   clear hz
   go_enter Tryz.func83,Tryz.ntmps83
   go_wp2_with fail
   go_ret2
   exact zdg HN.out (Zd _)
  ·have hsp:¬(l.length=0∨4<l.length∨(1<l.length∧l.head?=some 48)):=by
    rintro (h | h | ⟨-,h⟩)
    ·omega
    ·omega
    ·apply hz
     rw [List.head?_eq_getElem?,Zg (by omega)] at h
     rw [Zc,Zg (by omega)]
     exact ZV h
   have HYES:=Za (fun (h:l.all isDg=true)=>(show numS l=some (valD l) by rw [numS,if_neg hsp,if_pos h]))
   have HNO:=Za (fun (h:l.all isDg=false)=>(show numS l=none by rw [numS,if_neg hsp,if_neg (by rw [h];simp)]))
   have hne:(((l.getD 0 0).toNat:Int)==48)=false:=by
    rw [Ze]
    intro h
    exact hz (ZX.1 (by rw [show (48:UInt8).toNat=48 from rfl];omega))
   clear hsp hz
   generalize l.getD 0 0=z0 at *
   go_enter Tryz.func83,Tryz.ntmps83
   go_wp2_with fail
   go_loopw [4,5] (fun x i wr=>∃k:Nat,x = .int .i64 (valD (l.take k):Int)∧i = .int .i64 k∧k≤l.length∧Hid ((l.take k).all isDg=true)∧Hid (Ext w wr)) (fun _ i _=>l.length-(intOf i).toNat)
   case atStart=>exact ⟨0,rfl,rfl,by omega,Za rfl,Za (Zd _)⟩
   case round =>
    obtain ⟨k,rfl,rfl,hk,HA,HE⟩:=hrel
    have hvs:=zcF HA.out (by rw [Zy];omega)
    have q0:(0:Int)≤(k:Int):=by omega
    by_cases h1:k<l.length
    ·have q1:(k:Int)<(l.length:Int):=by omega
     have h5:=zao l k
     by_cases hd:isDg (l.getD k 0)=true
     ·have hv:=zfs h1
      have ha:=zgv h1
      rw [HA.out,hd] at ha
      have HA2:=Za ha
      obtain ⟨d1,d2⟩:=zdA hd
      have HV:=Za hv
      generalize l.getD k 0=d at *
      generalize valD (l.take k)=V at *
      clear hv ha hd
      have e1:((d.toNat:Int)<48)=False:=by simp <;> omega
      have e2:((57:Int)<(d.toNat:Int))=False:=by simp <;> omega
      have i1:=Zp (10*(V:Int)) ⟨by omega,by omega⟩
      have i2:=Zp (10*(V:Int)+((d.toNat:Int)-48)) ⟨by omega,by omega⟩
      have i3:IntKind.u8.wrap ((d.toNat:Int)-48)=(d.toNat:Int)-48:=by rw [IntKind.wrap_u8];omega
      have i4:=Zp ((d.toNat:Int)-48) ⟨by omega,by omega⟩
      go_wp2_with fail
      go_roundw
      case rel=>exact ⟨k+1,by rw [HV.out];congr 1;omega,by go_num,by omega,HA2,HE⟩
      case measure=>simp [intOf] <;> omega
     ·have hd:isDg (l.getD k 0)=false:=by simpa using hd
      have HN:=Za (HNO.out (zh4 h1 hd))
      have hcm:((l.getD k 0).toNat:Int)<48∨(57:Int)<((l.getD k 0).toNat:Int):=by
       rw [isDg,Bool.and_eq_false_iff,Z3,Z3,UInt8.le_iff_toNat_le,UInt8.le_iff_toNat_le] at hd
       have e48:(48:UInt8).toNat=48:=rfl
       have e57:(57:UInt8).toNat=57:=rfl
       omega
      generalize l.getD k 0=d at *
      clear hd
      rcases hcm with e1 | e1
      ·go_wp2_with fail
       go_ret2
       exact zdg HN.out HE.out
      ·have e2:¬((d.toNat:Int)<48):=by omega
       go_wp2_with fail
       go_ret2
       exact zdg HN.out HE.out
    ·obtain rfl:k=l.length:=by omega
     have e9:l.take l.length=l:=Zz (Zf _)
     rw [e9] at HA ⊢
     have HY:=Za (HYES.out HA.out)
     go_wp2_with fail
     go_ret2
     exact ziV HY.out HE.out
 ·have p1:¬((1:Int)<(l.length:Int)):=by omega
  have hsp:¬(l.length=0∨4<l.length∨(1<l.length∧l.head?=some 48)):=by
   rintro (h | h | ⟨h, -⟩) <;> omega
  have HYES:=Za (fun (h:l.all isDg=true)=>(show numS l=some (valD l) by rw [numS,if_neg hsp,if_pos h]))
  have HNO:=Za (fun (h:l.all isDg=false)=>(show numS l=none by rw [numS,if_neg hsp,if_neg (by rw [h];simp)]))
  clear hsp h50
  go_enter Tryz.func83,Tryz.ntmps83
  go_wp2_with fail
  go_loopw [4,5] (fun x i wr=>∃k:Nat,x = .int .i64 (valD (l.take k):Int)∧i = .int .i64 k∧k≤l.length∧Hid ((l.take k).all isDg=true)∧Hid (Ext w wr)) (fun _ i _=>l.length-(intOf i).toNat)
  case atStart=>exact ⟨0,rfl,rfl,by omega,Za rfl,Za (Zd _)⟩
  case round =>
   obtain ⟨k,rfl,rfl,hk,HA,HE⟩:=hrel
   have hvs:=zcF HA.out (by rw [Zy];omega)
   have q0:(0:Int)≤(k:Int):=by omega
   by_cases h1:k<l.length
   ·have q1:(k:Int)<(l.length:Int):=by omega
    have h5:=zao l k
    by_cases hd:isDg (l.getD k 0)=true
    ·have hv:=zfs h1
     have ha:=zgv h1
     rw [HA.out,hd] at ha
     have HA2:=Za ha
     obtain ⟨d1,d2⟩:=zdA hd
     have HV:=Za hv
     generalize l.getD k 0=d at *
     generalize valD (l.take k)=V at *
     clear hv ha hd
     have e1:((d.toNat:Int)<48)=False:=by simp <;> omega
     have e2:((57:Int)<(d.toNat:Int))=False:=by simp <;> omega
     have i1:=Zp (10*(V:Int)) ⟨by omega,by omega⟩
     have i2:=Zp (10*(V:Int)+((d.toNat:Int)-48)) ⟨by omega,by omega⟩
     have i3:IntKind.u8.wrap ((d.toNat:Int)-48)=(d.toNat:Int)-48:=by rw [IntKind.wrap_u8];omega
     have i4:=Zp ((d.toNat:Int)-48) ⟨by omega,by omega⟩
     go_wp2_with fail
     go_roundw
     case rel=>exact ⟨k+1,by rw [HV.out];congr 1;omega,by go_num,by omega,HA2,HE⟩
     case measure=>simp [intOf] <;> omega
    ·have hd:isDg (l.getD k 0)=false:=by simpa using hd
     have HN:=Za (HNO.out (zh4 h1 hd))
     have hcm:((l.getD k 0).toNat:Int)<48∨(57:Int)<((l.getD k 0).toNat:Int):=by
      rw [isDg,Bool.and_eq_false_iff,Z3,Z3,UInt8.le_iff_toNat_le,UInt8.le_iff_toNat_le] at hd
      have e48:(48:UInt8).toNat=48:=rfl
      have e57:(57:UInt8).toNat=57:=rfl
      omega
     generalize l.getD k 0=d at *
     clear hd
     rcases hcm with e1 | e1
     ·go_wp2_with fail
      go_ret2
      exact zdg HN.out HE.out
     ·have e2:¬((d.toNat:Int)<48):=by omega
      go_wp2_with fail
      go_ret2
      exact zdg HN.out HE.out
   ·obtain rfl:k=l.length:=by omega
    have e9:l.take l.length=l:=Zz (Zf _)
    rw [e9] at HA ⊢
    have HY:=Za (HYES.out HA.out)
    go_wp2_with fail
    go_ret2
    exact ziV HY.out HE.out
theorem zaw (c:UInt8) (w:World):Calls Tryz.prog 154 #[.int .u8 (c.toNat:Int)] w fun e w'=>e = .returned (.int .u8 (kindR c))∧Ext w w':=by
 go_enter Tryz.func154,Tryz.ntmps154
 go_wp2_with fail
 go_loopw [5] (fun i wr=>∃k:Nat,i = .int .i64 k∧k≤7∧Hid (∀x∈([102,108,109,120,121,115,111]:List UInt8).take k,c≠x)∧wr=w.alloc (.cells #[.int .u8 3,.int .u8 4,.int .u8 5,.int .u8 6,.int .u8 7,.int .u8 8,.int .u8 10] 5)) (fun i _=>7-(intOf i).toNat)
 case atStart=>exact ⟨0,rfl,by omega,Za (by simp),rfl⟩
 case round =>
  obtain ⟨k,rfl,hk,HN,rfl⟩:=hrel
  have hb:Ext w (w.alloc (.cells #[.int .u8 3,.int .u8 4,.int .u8 5,.int .u8 6,.int .u8 7,.int .u8 8,.int .u8 10] 5)):=(Zd _).alloc _
  by_cases e0:k=0
  ·subst e0
   have hs:∀h,(⟨#[102,108,109,120,121,115,111]⟩:ByteArray)[0]'h=(102:UInt8):=fun _=>rfl
   by_cases hc:c=102
   ·have hv:=Za (show kindR c=3 by rw [hc];decide)
    have hn:((102:Int)==(c.toNat:Int))=true:=by rw [hc];rfl
    clear hc
    go_wp2_with fail
    go_ret
    exact ⟨by rw [hv.out];rfl,hb⟩
   ·have hne:((c.toNat:Int)==102)=false:=by
     rw [Ze]
     intro h
     exact hc (ZX.1 (by rw [show (102:UInt8).toNat=102 from rfl];omega))
    have hne2:((102:Int)==(c.toNat:Int))=false:=by rw [Ze] at hne ⊢;omega
    have HN2:=Za (show ∀x∈([102,108,109,120,121,115,111]:List UInt8).take (0+1),c≠x from by
     intro x hx
     rw [show ([102,108,109,120,121,115,111]:List UInt8).take (0+1)=([102,108,109,120,121,115,111]:List UInt8).take 0++[102] from rfl] at hx
     rcases Zw.1 hx with h | h
     ·exact HN.out x h
     ·rw [Z7.1 h];exact hc)
    clear hc HN
    go_wp2_with fail
    go_roundw
    case rel=>exact ⟨0+1,rfl,by omega,HN2,by first | rfl | trivial⟩
    case measure=>simp [intOf]
  by_cases e1:k=1
  ·subst e1
   have hs:∀h,(⟨#[102,108,109,120,121,115,111]⟩:ByteArray)[1]'h=(108:UInt8):=fun _=>rfl
   by_cases hc:c=108
   ·have hv:=Za (show kindR c=4 by rw [hc];decide)
    have hn:((108:Int)==(c.toNat:Int))=true:=by rw [hc];rfl
    clear hc
    go_wp2_with fail
    go_ret
    exact ⟨by rw [hv.out];rfl,hb⟩
   ·have hne:((c.toNat:Int)==108)=false:=by
     rw [Ze]
     intro h
     exact hc (ZX.1 (by rw [show (108:UInt8).toNat=108 from rfl];omega))
    have hne2:((108:Int)==(c.toNat:Int))=false:=by rw [Ze] at hne ⊢;omega
    have HN2:=Za (show ∀x∈([102,108,109,120,121,115,111]:List UInt8).take (1+1),c≠x from by
     intro x hx
     rw [show ([102,108,109,120,121,115,111]:List UInt8).take (1+1)=([102,108,109,120,121,115,111]:List UInt8).take 1++[108] from rfl] at hx
     rcases Zw.1 hx with h | h
     ·exact HN.out x h
     ·rw [Z7.1 h];exact hc)
    clear hc HN
    go_wp2_with fail
    go_roundw
    case rel=>exact ⟨1+1,rfl,by omega,HN2,by first | rfl | trivial⟩
    case measure=>simp [intOf]
  by_cases e2:k=2
  ·subst e2
   have hs:∀h,(⟨#[102,108,109,120,121,115,111]⟩:ByteArray)[2]'h=(109:UInt8):=fun _=>rfl
   by_cases hc:c=109
   ·have hv:=Za (show kindR c=5 by rw [hc];decide)
    have hn:((109:Int)==(c.toNat:Int))=true:=by rw [hc];rfl
    clear hc
    go_wp2_with fail
    go_ret
    exact ⟨by rw [hv.out];rfl,hb⟩
   ·have hne:((c.toNat:Int)==109)=false:=by
     rw [Ze]
     intro h
     exact hc (ZX.1 (by rw [show (109:UInt8).toNat=109 from rfl];omega))
    have hne2:((109:Int)==(c.toNat:Int))=false:=by rw [Ze] at hne ⊢;omega
    have HN2:=Za (show ∀x∈([102,108,109,120,121,115,111]:List UInt8).take (2+1),c≠x from by
     intro x hx
     rw [show ([102,108,109,120,121,115,111]:List UInt8).take (2+1)=([102,108,109,120,121,115,111]:List UInt8).take 2++[109] from rfl] at hx
     rcases Zw.1 hx with h | h
     ·exact HN.out x h
     ·rw [Z7.1 h];exact hc)
    clear hc HN
    go_wp2_with fail
    go_roundw
    case rel=>exact ⟨2+1,rfl,by omega,HN2,by first | rfl | trivial⟩
    case measure=>simp [intOf]
  by_cases e3:k=3
  ·subst e3
   have hs:∀h,(⟨#[102,108,109,120,121,115,111]⟩:ByteArray)[3]'h=(120:UInt8):=fun _=>rfl
   by_cases hc:c=120
   ·have hv:=Za (show kindR c=6 by rw [hc];decide)
    have hn:((120:Int)==(c.toNat:Int))=true:=by rw [hc];rfl
    clear hc
    go_wp2_with fail
    go_ret
    exact ⟨by rw [hv.out];rfl,hb⟩
   ·have hne:((c.toNat:Int)==120)=false:=by
     rw [Ze]
     intro h
     exact hc (ZX.1 (by rw [show (120:UInt8).toNat=120 from rfl];omega))
    have hne2:((120:Int)==(c.toNat:Int))=false:=by rw [Ze] at hne ⊢;omega
    have HN2:=Za (show ∀x∈([102,108,109,120,121,115,111]:List UInt8).take (3+1),c≠x from by
     intro x hx
     rw [show ([102,108,109,120,121,115,111]:List UInt8).take (3+1)=([102,108,109,120,121,115,111]:List UInt8).take 3++[120] from rfl] at hx
     rcases Zw.1 hx with h | h
     ·exact HN.out x h
     ·rw [Z7.1 h];exact hc)
    clear hc HN
    go_wp2_with fail
    go_roundw
    case rel=>exact ⟨3+1,rfl,by omega,HN2,by first | rfl | trivial⟩
    case measure=>simp [intOf]
  by_cases e4:k=4
  ·subst e4
   have hs:∀h,(⟨#[102,108,109,120,121,115,111]⟩:ByteArray)[4]'h=(121:UInt8):=fun _=>rfl
   by_cases hc:c=121
   ·have hv:=Za (show kindR c=7 by rw [hc];decide)
    have hn:((121:Int)==(c.toNat:Int))=true:=by rw [hc];rfl
    clear hc
    go_wp2_with fail
    go_ret
    exact ⟨by rw [hv.out];rfl,hb⟩
   ·have hne:((c.toNat:Int)==121)=false:=by
     rw [Ze]
     intro h
     exact hc (ZX.1 (by rw [show (121:UInt8).toNat=121 from rfl];omega))
    have hne2:((121:Int)==(c.toNat:Int))=false:=by rw [Ze] at hne ⊢;omega
    have HN2:=Za (show ∀x∈([102,108,109,120,121,115,111]:List UInt8).take (4+1),c≠x from by
     intro x hx
     rw [show ([102,108,109,120,121,115,111]:List UInt8).take (4+1)=([102,108,109,120,121,115,111]:List UInt8).take 4++[121] from rfl] at hx
     rcases Zw.1 hx with h | h
     ·exact HN.out x h
     ·rw [Z7.1 h];exact hc)
    clear hc HN
    go_wp2_with fail
    go_roundw
    case rel=>exact ⟨4+1,rfl,by omega,HN2,by first | rfl | trivial⟩
    case measure=>simp [intOf]
  by_cases e5:k=5
  ·subst e5
   have hs:∀h,(⟨#[102,108,109,120,121,115,111]⟩:ByteArray)[5]'h=(115:UInt8):=fun _=>rfl
   by_cases hc:c=115
   ·have hv:=Za (show kindR c=8 by rw [hc];decide)
    have hn:((115:Int)==(c.toNat:Int))=true:=by rw [hc];rfl
    clear hc
    go_wp2_with fail
    go_ret
    exact ⟨by rw [hv.out];rfl,hb⟩
   ·have hne:((c.toNat:Int)==115)=false:=by
     rw [Ze]
     intro h
     exact hc (ZX.1 (by rw [show (115:UInt8).toNat=115 from rfl];omega))
    have hne2:((115:Int)==(c.toNat:Int))=false:=by rw [Ze] at hne ⊢;omega
    have HN2:=Za (show ∀x∈([102,108,109,120,121,115,111]:List UInt8).take (5+1),c≠x from by
     intro x hx
     rw [show ([102,108,109,120,121,115,111]:List UInt8).take (5+1)=([102,108,109,120,121,115,111]:List UInt8).take 5++[115] from rfl] at hx
     rcases Zw.1 hx with h | h
     ·exact HN.out x h
     ·rw [Z7.1 h];exact hc)
    clear hc HN
    go_wp2_with fail
    go_roundw
    case rel=>exact ⟨5+1,rfl,by omega,HN2,by first | rfl | trivial⟩
    case measure=>simp [intOf]
  by_cases e6:k=6
  ·subst e6
   have hs:∀h,(⟨#[102,108,109,120,121,115,111]⟩:ByteArray)[6]'h=(111:UInt8):=fun _=>rfl
   by_cases hc:c=111
   ·have hv:=Za (show kindR c=10 by rw [hc];decide)
    have hn:((111:Int)==(c.toNat:Int))=true:=by rw [hc];rfl
    clear hc
    go_wp2_with fail
    go_ret
    exact ⟨by rw [hv.out];rfl,hb⟩
   ·have hne:((c.toNat:Int)==111)=false:=by
     rw [Ze]
     intro h
     exact hc (ZX.1 (by rw [show (111:UInt8).toNat=111 from rfl];omega))
    have hne2:((111:Int)==(c.toNat:Int))=false:=by rw [Ze] at hne ⊢;omega
    have HN2:=Za (show ∀x∈([102,108,109,120,121,115,111]:List UInt8).take (6+1),c≠x from by
     intro x hx
     rw [show ([102,108,109,120,121,115,111]:List UInt8).take (6+1)=([102,108,109,120,121,115,111]:List UInt8).take 6++[111] from rfl] at hx
     rcases Zw.1 hx with h | h
     ·exact HN.out x h
     ·rw [Z7.1 h];exact hc)
    clear hc HN
    go_wp2_with fail
    go_roundw
    case rel=>exact ⟨6+1,rfl,by omega,HN2,by first | rfl | trivial⟩
    case measure=>simp [intOf]
  obtain rfl:k=7:=by omega
  have hv:kindR c=0:=by
   have h9:=HN.out
   simp at h9
   obtain ⟨n1,n2,n3,n4,n5,n6,n7⟩:=h9
   simp [kindR,n1,n2,n3,n4,n5,n6,n7]
  have HV:=Za hv
  clear hv
  go_wp2_with fail
  go_ret
  exact ⟨by rw [HV.out];rfl,hb⟩
end Go.Proofs.YtkneghkbgingdaaGreatDoor
/- What the reference reads of a word. -/
namespace Go.Proofs.YtkneghkbgingdaaGreatDoor
set_option maxRecDepth 100000
open Go.RowKit
def WordR (x:Option (List St)) (w:World) (e:Ending) (w':World):Prop:=∃(A:Option Addr) (n c:Nat),e = .returned (.tuple #[.slice A n c,.bool x.isSome])∧Ext w w'∧(∀L,x=some L→Vec shSt w' A n L)
theorem WordR.no {x:Option (List St)} {A:Option Addr} {n c:Nat} {w w':World} (h:x=none) (hb:Ext w w'):WordR x w (.returned (.tuple #[.slice A n c,.bool false])) w':=by
 subst h
 exact ⟨A,n,c,rfl,hb,fun L h=>by cases h⟩
theorem WordR.yes {x:Option (List St)} {L:List St} {A:Option Addr} {n c:Nat} {w w':World} (h:x=some L) (hv:Vec shSt w' A n L) (hb:Ext w w'):WordR x w (.returned (.tuple #[.slice A n c,.bool true])) w':=by
 subst h
 exact ⟨A,n,c,rfl,hb,fun L' h=>by cases h;exact hv⟩
theorem zoC {p:Prop} (h:p:=by
 go_enter Tryz.func123,Tryz.ntmps123
 go_wp2_with fail
 go_ret2
 exact WordR.yes rfl (Vec.lit2 (by simp) rfl rfl) zx):p:=h
theorem zne (w:World):Calls Tryz.prog 123 #[.string ⟨([121,111]:List UInt8).toArray⟩] w (WordR (some [⟨2,false,0,0⟩]) w):=by
 exact zoC
theorem zlE (w:World):Calls Tryz.prog 123 #[.string ⟨([]:List UInt8).toArray⟩] w (WordR none w):=by
 go_enter Tryz.func123,Tryz.ntmps123
 go_wp2_with fail
 go_ret2
 exact WordR.no rfl zx
theorem znd (l R:List UInt8) (hE:(l==[121,111])=false) (h2:(2:Int)<(l.length:Int)) (hp:(l.take 2==[111,110])=true) (hx:(⟨l.toArray⟩:ByteArray).extract 2 l.length=⟨R.toArray⟩) (hl:R.length≤100000) (w:World) :
  Calls Tryz.prog 123 #[.string ⟨l.toArray⟩] w (WordR ((numS R).bind fun a=>some [⟨9,false,a,0⟩]) w):=by
 have HN:=Za (fun w'=>zad R hl w')
 have hx0:=zap l 2
 cases hn:numS R with
 | none =>
  have HS:=Za (show numN R=0∧(numS R).isSome=false by unfold numN;rw [hn];exact ⟨rfl,rfl⟩)
  clear hn
  go_enter Tryz.func123,Tryz.ntmps123
  go_wp2_with (go_at_call 83;((with_reducible refine (HN.out _).mono ?_);rintro e w1 ⟨rfl,hq1⟩;rw [HS.out.1,HS.out.2]))
  go_ret2
  exact WordR.no rfl zx
 | some a =>
  have HS:=Za (show numN R=(a:Int)∧(numS R).isSome=true by unfold numN;rw [hn];exact ⟨rfl,rfl⟩)
  clear hn
  go_enter Tryz.func123,Tryz.ntmps123
  go_wp2_with (go_at_call 83;((with_reducible refine (HN.out _).mono ?_);rintro e w1 ⟨rfl,hq1⟩;rw [HS.out.1,HS.out.2]))
  go_ret2
  exact WordR.yes rfl (Vec.lit2 (by simp) rfl rfl) zx
theorem zlD (l:List UInt8) (c:UInt8) (hE:(l==[121,111])=false) (hp:(l.take 2==[111,110])=false) (h0:∀h,(⟨l.toArray⟩:ByteArray)[0]'h=c) (hl0:¬(l.length:Int)=0) (hk:((c.toNat:Int) != 107)=true) (hq:((c.toNat:Int) != 112)=true) (w:World) :
  Calls Tryz.prog 123 #[.string ⟨l.toArray⟩] w (WordR none w):=by
 have hx0:=zap l 2
 have hl1:(0:Int)<(l.length:Int):=by omega
 by_cases h2:(2:Int)<(l.length:Int)
 ·go_enter Tryz.func123,Tryz.ntmps123
  go_wp2_with fail
  all_goals (go_ret2;exact WordR.no rfl zx)
 ·go_enter Tryz.func123,Tryz.ntmps123
  go_wp2_with fail
  all_goals (go_ret2;exact WordR.no rfl zx)
theorem zh2 (l:List UInt8) (c:UInt8) (hE:(l==[121,111])=false) (h2:¬(2:Int)<(l.length:Int)) (h0:∀h,(⟨l.toArray⟩:ByteArray)[0]'h=c) (hl0:¬(l.length:Int)=0) (hk:((c.toNat:Int) != 107)=true) (hq:((c.toNat:Int) != 112)=true) (w:World) :
  Calls Tryz.prog 123 #[.string ⟨l.toArray⟩] w (WordR none w):=by
 have hl1:(0:Int)<(l.length:Int):=by omega
 go_enter Tryz.func123,Tryz.ntmps123
 go_wp2_with fail
 all_goals (go_ret2;exact WordR.no rfl zx)
theorem zfx (w:World):Calls Tryz.prog 123 #[.string ⟨([107]:List UInt8).toArray⟩] w (WordR (some [⟨1,false,0,0⟩]) w):=by
 have h0:∀h,(⟨([107]:List UInt8).toArray⟩:ByteArray)[0]'h=(107:UInt8):=fun _=>rfl
 exact zoC
theorem zfy (w:World):Calls Tryz.prog 123 #[.string ⟨([112]:List UInt8).toArray⟩] w (WordR (some [⟨1,true,0,0⟩]) w):=by
 have h0:∀h,(⟨([112]:List UInt8).toArray⟩:ByteArray)[0]'h=(112:UInt8):=fun _=>rfl
 exact zoC
theorem zdD {l:List UInt8} {n:Nat} (h:numS l=some n):n<10000:=by
 unfold numS at h
 split at h
 ·cases h
 ·rename_i h1
  split at h
  ·rename_i h2
   cases h
   exact zcF h2 (by omega)
  ·cases h
theorem zoN {p:Prop} (h:p:=by
 have HY:=Za (show X=none by rw [HXX.out,if_neg h1])
 clear h1
 go_wp2_with fail
 go_ret2
 exact WordR.no HY.out HB.out):p:=h
theorem zfv (l R:List UInt8) (d:UInt8) (r:List UInt8) (hld:l=107::d::r) (hR:R=d::r) (hlen:(d::r).length≤100000) (N:Nat) (hn:numS R=some N) (X:Option (List St)) (hX:X=if 1<N then some (List.replicate (min N 300) (⟨1,false,0,0⟩:St)) else none) (w:World) :
  Calls Tryz.prog 123 #[.string ⟨l.toArray⟩] w (WordR X w):=by
 have hE:(l==[121,111])=false:=by rw [hld];simp
 have hp:(l.take 2==[111,110])=false:=by rw [hld];simp
 have h0:∀h,(⟨l.toArray⟩:ByteArray)[0]'h=(107:UInt8):=fun h=>by rw [zao l 0 h,hld];rfl
 have hx1:(⟨l.toArray⟩:ByteArray).extract 1 l.length=⟨R.toArray⟩:=by rw [zah l 1 _ (Zf _),hld,hR];rfl
 have hx0:=zap l 2
 have hl2:(2:Int)≤(l.length:Int):=by rw [hld];simp only [Zk];omega
 have hl1:¬((l.length:Int)=1):=by omega
 have hl9:¬((l.length:Int)=0):=by omega
 have hl8:(0:Int)<(l.length:Int):=by omega
 have hl5:((l.length:Int)==0)=false:=by rw [Ze];omega
 have hl6:((l.length:Int)==1)=false:=by rw [Ze];omega
 have hl4:¬l=[]:=by rw [hld];simp
 have hl7:(1:Int)≤(l.length:Int):=by omega
 have HN:=Za (fun w'=>zad R (by rw [hR];exact hlen) w')
 have hNs:=zdD hn
 have HS:=Za (show numN R=(N:Int)∧(numS R).isSome=true by unfold numN;rw [hn];exact ⟨rfl,rfl⟩)
 have hb0:Ext w (w.alloc (.cells #[.int .u8 1,.bool false,.int .i64 0,.int .i64 0] 132)):=(Zd _).alloc _
 have HXX:=Za hX
 clear hn hld hR hlen hX
 by_cases hl3:(2:Int)<(l.length:Int)
 ·go_enter Tryz.func123,Tryz.ntmps123
  go_wp2_with (go_at_call 83;((with_reducible refine (HN.out _).mono ?_);rintro e w1 ⟨rfl,hq1⟩;rw [HS.out.1,HS.out.2]))
  have HQ:=Za hq1
  have HQ0:=Za (hb0.trans hq1)
  clear hq1
  go_loopw [9,10] (fun u i wr=>∃(V:Value) (k:Nat),V=u∧i = .int .i64 k∧k≤min N 300∧Hid (OwnV shSt wr w1.heap.size 132 V k (List.replicate k (⟨1,false,0,0⟩:St)))∧Hid (Ext w1 wr)) (fun _ i _=>300-(intOf i).toNat)
  case atStart=>exact ⟨_,0,rfl,rfl,by omega,Za (OwnV.nil _ _ _ _),Za (Zd _)⟩
  case round =>
   obtain ⟨V,k,rfl,rfl,hk,HV,HE⟩:=hrel
   have hb:=HQ.out.trans HE.out
   obtain ⟨hc,hf,hz⟩:=hb.facts
   by_cases hkN:k<min N 300
   ·have q1:(k:Int)<(N:Int):=by omega
    have q2:(k:Int)<300:=by omega
    go_wp2_with (at_builtin;(refine zab (S:=shSt) (w:=w1) (m:=1) (xs:=[(⟨1,false,0,0⟩:St)]) 73 132 (.agg #[.int .u8 0,.bool false,.int .i64 0,.int .i64 0]) 24 (by rfl) (by rfl) Tryz.underlying73 za7 (by rfl) (by omega) (by rfl) (by rfl) (OwnV.ext HV.out (by repeat (first | exact Zd _ | refine Zl ?_ _))) (HE.out.trans (by repeat (first | exact Zd _ | refine Zl ?_ _))) (Vec.lit2 (by simp) rfl rfl) (by omega) ?_;intro v' w6 hown6 hext6 hgr6))
    have HN6:=Za (show OwnV shSt w6 w1.heap.size 132 v' (k+1) (List.replicate (k+1) (⟨1,false,0,0⟩:St)) from by rw [List.replicate_succ'];exact hown6)
    clear hown6 hgr6 hc hf hz
    go_roundw
    case rel=>exact ⟨v',k+1,rfl,by go_num,by omega,HN6,hext6⟩
    case measure=>simp [intOf] <;> omega
   ·obtain ⟨A9,c9,rfl,hv9, -⟩:=zac HV.out
    have HV9:=Za hv9
    clear hv9
    have HB:=Za (HQ0.out.trans HE.out)
    have HK:=Za (show k=min N 300 by omega)
    by_cases h1:1<N
    ·have q3:(1:Int)<(N:Int):=by omega
     have HY:=Za (show X=some (List.replicate k (⟨1,false,0,0⟩:St)) by rw [HXX.out,if_pos h1,HK.out])
     clear h1
     by_cases hkn:k<N
     ·have q1:(k:Int)<(N:Int):=by omega
      have q2:¬((k:Int)<300):=by omega
      go_wp2_with fail
      go_ret2
      exact WordR.yes HY.out HV9.out HB.out
     ·have q1:¬((k:Int)<(N:Int)):=by omega
      go_wp2_with fail
      go_ret2
      exact WordR.yes HY.out HV9.out HB.out
    ·have q3:¬((1:Int)<(N:Int)):=by omega
     have q1:¬((k:Int)<(N:Int)):=by omega
     have HY:=Za (show X=none by rw [HXX.out,if_neg h1])
     clear h1
     go_wp2_with fail
     go_ret2
     exact WordR.no HY.out HB.out
 ·go_enter Tryz.func123,Tryz.ntmps123
  go_wp2_with (go_at_call 83;((with_reducible refine (HN.out _).mono ?_);rintro e w1 ⟨rfl,hq1⟩;rw [HS.out.1,HS.out.2]))
  have HQ:=Za hq1
  have HQ0:=Za (hb0.trans hq1)
  clear hq1
  go_loopw [9,10] (fun u i wr=>∃(V:Value) (k:Nat),V=u∧i = .int .i64 k∧k≤min N 300∧Hid (OwnV shSt wr w1.heap.size 132 V k (List.replicate k (⟨1,false,0,0⟩:St)))∧Hid (Ext w1 wr)) (fun _ i _=>300-(intOf i).toNat)
  case atStart=>exact ⟨_,0,rfl,rfl,by omega,Za (OwnV.nil _ _ _ _),Za (Zd _)⟩
  case round =>
   obtain ⟨V,k,rfl,rfl,hk,HV,HE⟩:=hrel
   have hb:=HQ.out.trans HE.out
   obtain ⟨hc,hf,hz⟩:=hb.facts
   by_cases hkN:k<min N 300
   ·have q1:(k:Int)<(N:Int):=by omega
    have q2:(k:Int)<300:=by omega
    go_wp2_with (at_builtin;(refine zab (S:=shSt) (w:=w1) (m:=1) (xs:=[(⟨1,false,0,0⟩:St)]) 73 132 (.agg #[.int .u8 0,.bool false,.int .i64 0,.int .i64 0]) 24 (by rfl) (by rfl) Tryz.underlying73 za7 (by rfl) (by omega) (by rfl) (by rfl) (OwnV.ext HV.out (by repeat (first | exact Zd _ | refine Zl ?_ _))) (HE.out.trans (by repeat (first | exact Zd _ | refine Zl ?_ _))) (Vec.lit2 (by simp) rfl rfl) (by omega) ?_;intro v' w6 hown6 hext6 hgr6))
    have HN6:=Za (show OwnV shSt w6 w1.heap.size 132 v' (k+1) (List.replicate (k+1) (⟨1,false,0,0⟩:St)) from by rw [List.replicate_succ'];exact hown6)
    clear hown6 hgr6 hc hf hz
    go_roundw
    case rel=>exact ⟨v',k+1,rfl,by go_num,by omega,HN6,hext6⟩
    case measure=>simp [intOf] <;> omega
   ·obtain ⟨A9,c9,rfl,hv9, -⟩:=zac HV.out
    have HV9:=Za hv9
    clear hv9
    have HB:=Za (HQ0.out.trans HE.out)
    have HK:=Za (show k=min N 300 by omega)
    by_cases h1:1<N
    ·have q3:(1:Int)<(N:Int):=by omega
     have HY:=Za (show X=some (List.replicate k (⟨1,false,0,0⟩:St)) by rw [HXX.out,if_pos h1,HK.out])
     clear h1
     by_cases hkn:k<N
     ·have q1:(k:Int)<(N:Int):=by omega
      have q2:¬((k:Int)<300):=by omega
      go_wp2_with fail
      go_ret2
      exact WordR.yes HY.out HV9.out HB.out
     ·have q1:¬((k:Int)<(N:Int)):=by omega
      go_wp2_with fail
      go_ret2
      exact WordR.yes HY.out HV9.out HB.out
    ·have q3:¬((1:Int)<(N:Int)):=by omega
     have q1:¬((k:Int)<(N:Int)):=by omega
     exact zoN
theorem zfw (l R:List UInt8) (d:UInt8) (r:List UInt8) (hld:l=112::d::r) (hR:R=d::r) (hlen:(d::r).length≤100000) (N:Nat) (hn:numS R=some N) (X:Option (List St)) (hX:X=if 1<N then some (List.replicate (min N 300) (⟨1,true,0,0⟩:St)) else none) (w:World) :
  Calls Tryz.prog 123 #[.string ⟨l.toArray⟩] w (WordR X w):=by
 have hE:(l==[121,111])=false:=by rw [hld];simp
 have hp:(l.take 2==[111,110])=false:=by rw [hld];simp
 have h0:∀h,(⟨l.toArray⟩:ByteArray)[0]'h=(112:UInt8):=fun h=>by rw [zao l 0 h,hld];rfl
 have hx1:(⟨l.toArray⟩:ByteArray).extract 1 l.length=⟨R.toArray⟩:=by rw [zah l 1 _ (Zf _),hld,hR];rfl
 have hx0:=zap l 2
 have hl2:(2:Int)≤(l.length:Int):=by rw [hld];simp only [Zk];omega
 have hl1:¬((l.length:Int)=1):=by omega
 have hl9:¬((l.length:Int)=0):=by omega
 have hl8:(0:Int)<(l.length:Int):=by omega
 have hl5:((l.length:Int)==0)=false:=by rw [Ze];omega
 have hl6:((l.length:Int)==1)=false:=by rw [Ze];omega
 have hl4:¬l=[]:=by rw [hld];simp
 have hl7:(1:Int)≤(l.length:Int):=by omega
 have HN:=Za (fun w'=>zad R (by rw [hR];exact hlen) w')
 have hNs:=zdD hn
 have HS:=Za (show numN R=(N:Int)∧(numS R).isSome=true by unfold numN;rw [hn];exact ⟨rfl,rfl⟩)
 have hb0:Ext w (w.alloc (.cells #[.int .u8 1,.bool true,.int .i64 0,.int .i64 0] 132)):=(Zd _).alloc _
 have HXX:=Za hX
 clear hn hld hR hlen hX
 by_cases hl3:(2:Int)<(l.length:Int)
 ·go_enter Tryz.func123,Tryz.ntmps123
  go_wp2_with (go_at_call 83;((with_reducible refine (HN.out _).mono ?_);rintro e w1 ⟨rfl,hq1⟩;rw [HS.out.1,HS.out.2]))
  have HQ:=Za hq1
  have HQ0:=Za (hb0.trans hq1)
  clear hq1
  go_loopw [9,10] (fun u i wr=>∃(V:Value) (k:Nat),V=u∧i = .int .i64 k∧k≤min N 300∧Hid (OwnV shSt wr w1.heap.size 132 V k (List.replicate k (⟨1,true,0,0⟩:St)))∧Hid (Ext w1 wr)) (fun _ i _=>300-(intOf i).toNat)
  case atStart=>exact ⟨_,0,rfl,rfl,by omega,Za (OwnV.nil _ _ _ _),Za (Zd _)⟩
  case round =>
   obtain ⟨V,k,rfl,rfl,hk,HV,HE⟩:=hrel
   have hb:=HQ.out.trans HE.out
   obtain ⟨hc,hf,hz⟩:=hb.facts
   by_cases hkN:k<min N 300
   ·have q1:(k:Int)<(N:Int):=by omega
    have q2:(k:Int)<300:=by omega
    go_wp2_with (at_builtin;(refine zab (S:=shSt) (w:=w1) (m:=1) (xs:=[(⟨1,true,0,0⟩:St)]) 73 132 (.agg #[.int .u8 0,.bool false,.int .i64 0,.int .i64 0]) 24 (by rfl) (by rfl) Tryz.underlying73 za7 (by rfl) (by omega) (by rfl) (by rfl) (OwnV.ext HV.out (by repeat (first | exact Zd _ | refine Zl ?_ _))) (HE.out.trans (by repeat (first | exact Zd _ | refine Zl ?_ _))) (Vec.lit2 (by simp) rfl rfl) (by omega) ?_;intro v' w6 hown6 hext6 hgr6))
    have HN6:=Za (show OwnV shSt w6 w1.heap.size 132 v' (k+1) (List.replicate (k+1) (⟨1,true,0,0⟩:St)) from by rw [List.replicate_succ'];exact hown6)
    clear hown6 hgr6 hc hf hz
    go_roundw
    case rel=>exact ⟨v',k+1,rfl,by go_num,by omega,HN6,hext6⟩
    case measure=>simp [intOf] <;> omega
   ·obtain ⟨A9,c9,rfl,hv9, -⟩:=zac HV.out
    have HV9:=Za hv9
    clear hv9
    have HB:=Za (HQ0.out.trans HE.out)
    have HK:=Za (show k=min N 300 by omega)
    by_cases h1:1<N
    ·have q3:(1:Int)<(N:Int):=by omega
     have HY:=Za (show X=some (List.replicate k (⟨1,true,0,0⟩:St)) by rw [HXX.out,if_pos h1,HK.out])
     clear h1
     by_cases hkn:k<N
     ·have q1:(k:Int)<(N:Int):=by omega
      have q2:¬((k:Int)<300):=by omega
      go_wp2_with fail
      go_ret2
      exact WordR.yes HY.out HV9.out HB.out
     ·have q1:¬((k:Int)<(N:Int)):=by omega
      go_wp2_with fail
      go_ret2
      exact WordR.yes HY.out HV9.out HB.out
    ·have q3:¬((1:Int)<(N:Int)):=by omega
     have q1:¬((k:Int)<(N:Int)):=by omega
     have HY:=Za (show X=none by rw [HXX.out,if_neg h1])
     clear h1
     go_wp2_with fail
     go_ret2
     exact WordR.no HY.out HB.out
 ·go_enter Tryz.func123,Tryz.ntmps123
  go_wp2_with (go_at_call 83;((with_reducible refine (HN.out _).mono ?_);rintro e w1 ⟨rfl,hq1⟩;rw [HS.out.1,HS.out.2]))
  have HQ:=Za hq1
  have HQ0:=Za (hb0.trans hq1)
  clear hq1
  go_loopw [9,10] (fun u i wr=>∃(V:Value) (k:Nat),V=u∧i = .int .i64 k∧k≤min N 300∧Hid (OwnV shSt wr w1.heap.size 132 V k (List.replicate k (⟨1,true,0,0⟩:St)))∧Hid (Ext w1 wr)) (fun _ i _=>300-(intOf i).toNat)
  case atStart=>exact ⟨_,0,rfl,rfl,by omega,Za (OwnV.nil _ _ _ _),Za (Zd _)⟩
  case round =>
   obtain ⟨V,k,rfl,rfl,hk,HV,HE⟩:=hrel
   have hb:=HQ.out.trans HE.out
   obtain ⟨hc,hf,hz⟩:=hb.facts
   by_cases hkN:k<min N 300
   ·have q1:(k:Int)<(N:Int):=by omega
    have q2:(k:Int)<300:=by omega
    go_wp2_with (at_builtin;(refine zab (S:=shSt) (w:=w1) (m:=1) (xs:=[(⟨1,true,0,0⟩:St)]) 73 132 (.agg #[.int .u8 0,.bool false,.int .i64 0,.int .i64 0]) 24 (by rfl) (by rfl) Tryz.underlying73 za7 (by rfl) (by omega) (by rfl) (by rfl) (OwnV.ext HV.out (by repeat (first | exact Zd _ | refine Zl ?_ _))) (HE.out.trans (by repeat (first | exact Zd _ | refine Zl ?_ _))) (Vec.lit2 (by simp) rfl rfl) (by omega) ?_;intro v' w6 hown6 hext6 hgr6))
    have HN6:=Za (show OwnV shSt w6 w1.heap.size 132 v' (k+1) (List.replicate (k+1) (⟨1,true,0,0⟩:St)) from by rw [List.replicate_succ'];exact hown6)
    clear hown6 hgr6 hc hf hz
    go_roundw
    case rel=>exact ⟨v',k+1,rfl,by go_num,by omega,HN6,hext6⟩
    case measure=>simp [intOf] <;> omega
   ·obtain ⟨A9,c9,rfl,hv9, -⟩:=zac HV.out
    have HV9:=Za hv9
    clear hv9
    have HB:=Za (HQ0.out.trans HE.out)
    have HK:=Za (show k=min N 300 by omega)
    by_cases h1:1<N
    ·have q3:(1:Int)<(N:Int):=by omega
     have HY:=Za (show X=some (List.replicate k (⟨1,true,0,0⟩:St)) by rw [HXX.out,if_pos h1,HK.out])
     clear h1
     by_cases hkn:k<N
     ·have q1:(k:Int)<(N:Int):=by omega
      have q2:¬((k:Int)<300):=by omega
      go_wp2_with fail
      go_ret2
      exact WordR.yes HY.out HV9.out HB.out
     ·have q1:¬((k:Int)<(N:Int)):=by omega
      go_wp2_with fail
      go_ret2
      exact WordR.yes HY.out HV9.out HB.out
    ·have q3:¬((1:Int)<(N:Int)):=by omega
     have q1:¬((k:Int)<(N:Int)):=by omega
     exact zoN
end Go.Proofs.YtkneghkbgingdaaGreatDoor
