/- grid: Turn of a valid grid. -/
import Derived.Test.YtbjgpbojjhldaaaGreatDoorY25
import Derived.Sort.OwnSortedInts
set_option maxHeartbeats 16000000
namespace Go.Proofs.YtbjgpbojjhldaaaGreatDoor
set_option maxRecDepth 100000
open Go.RowKit Go.ChangeShapes Go.WideShapes Go.Joins
structure GBox (w:World) (G:Nat) (A:Option Addr) (c:Nat) (g:Gd):Prop where
 c0:w.cell? ⟨G,0,none⟩=some (.int .i64 (g.w:Int))
 c1:w.cell? ⟨G,1,none⟩=some (.int .i64 (g.h:Int))
 c2:w.cell? ⟨G,2,none⟩=some (.slice A g.b.length c)
theorem GBox.ext {w w':World} {G:Nat} {A:Option Addr} {c:Nat} {g:Gd} (h:GBox w G A c g) (hb:Ext w w'):GBox w' G A c g:=by
 have hl:=Zn w _ h.c0
 exact ⟨(Zl (p:=⟨G,0,none⟩) hb hl).trans h.c0,(Zl (p:=⟨G,1,none⟩) hb hl).trans h.c1,(Zl (p:=⟨G,2,none⟩) hb hl).trans h.c2⟩
theorem GBox.new (w:World) (A:Option Addr) (c:Nat) (g:Gd) (t:TypeId):GBox (w.alloc (.cells #[.int .i64 (g.w:Int),.int .i64 (g.h:Int),.slice A g.b.length c] t)) w.heap.size A c g:=by
 have h1:(w.alloc (.cells #[.int .i64 (g.w:Int),.int .i64 (g.h:Int),.slice A g.b.length c] t)).heap[w.heap.size]?=some (.cells #[.int .i64 (g.w:Int),.int .i64 (g.h:Int),.slice A g.b.length c] t):=heap_alloc_new w _
 refine ⟨?_,?_,?_⟩
 ·rw [cell_of_row _ w.heap.size 0 _ t (0,0) h1];rfl
 ·rw [cell_of_row _ w.heap.size 1 _ t (0,0) h1];rfl
 ·rw [cell_of_row _ w.heap.size 2 _ t (0,0) h1];rfl
theorem zlz (x y G c:Nat) (A:Option Addr) (g:Gd) (hg:okG g) (hx:x<g.h) (hy:y<g.w) (w:World) (hB:GBox w G A c g) (hv:GridAt w A g) :
  Calls Tryz.prog 133 #[.int .i64 (x:Int),.int .i64 (y:Int),.pointer (some ⟨G,0,none⟩)] w fun e w'=>e = .returned (.bool (g.at y x))/\w=w':=by
 obtain ⟨b,off,rfl,hb,hc⟩:=zbC hv hg
 have c3:=hc y x hy hx
 have hlt:=zet hg hy hx
 have aa:=zeD hg
 obtain ⟨e0,e1,e2⟩:=hB
 generalize g.at y x=v at *
 obtain ⟨L,hL⟩:∃L,g.b.length=L:=⟨_,rfl⟩
 obtain ⟨W,hW⟩:∃W,g.w=W:=⟨_,rfl⟩
 rw [hL] at hlt aa e2
 rw [hW] at e0 c3 hlt
 obtain ⟨p,hp⟩:∃p,x*W+y=p:=⟨_,rfl⟩
 obtain ⟨m,hm⟩:∃m,x*W=m:=⟨_,rfl⟩
 have hm1:(x:Int)*(W:Int)=(m:Int):=by rw [<-hm];simp
 have hm2:(m:Int)+(y:Int)=(p:Int):=by rw [<-hp,hm];simp
 rw [hp] at c3 hlt
 have q0:(0:Int)<=(p:Int):=by omega
 have q1:(p:Int)<(L:Int):=by omega
 have i1:=Zj (m:Int) (by omega)
 have i2:=Zj (p:Int) (by omega)
 clear hp hm hc hL hW hx hy
 go_enter Tryz.func133,Tryz.ntmps133
 go_wp2
 go_ret
 exact ⟨rfl,rfl⟩
theorem zsH {w W:World} {g:Nat} {v0 v1 v2 u0 u1 u2:Value} (h0:w.cell? ⟨g,0,none⟩=some u0) (h1:w.cell? ⟨g,1,none⟩=some u1) (h2:w.cell? ⟨g,2,none⟩=some u2)
  (e:((w.setCell ⟨g,0,none⟩ v0).setCell ⟨g,1,none⟩ v1).setCell ⟨g,2,none⟩ v2=W):W.cell? ⟨g,0,none⟩=some v0/\W.cell? ⟨g,1,none⟩=some v1/\W.cell? ⟨g,2,none⟩=some v2:=by
 subst e
 have a1:(w.setCell ⟨g,0,none⟩ v0).cell? ⟨g,1,none⟩=some u1:=(Zg _ _ _ _ (by simp)).trans h1
 have a2:((w.setCell ⟨g,0,none⟩ v0).setCell ⟨g,1,none⟩ v1).cell? ⟨g,2,none⟩=some u2:=(Zg _ _ _ _ (by simp)).trans ((Zg _ _ _ _ (by simp)).trans h2)
 refine ⟨?_,?_,Zq _ _ _ a2⟩
 ·exact (Zg _ _ _ _ (by simp)).trans ((Zg _ _ _ _ (by simp)).trans (Zq _ _ _ h0))
 ·exact (Zg _ _ _ _ (by simp)).trans (Zq _ _ _ a1)
theorem zbW {P:Program} {fn:Func} {R:Ending->World->Prop} {a:Act} {W9:World} {g:Nat} {u0 u1 u2 v0 v1 v2:Value} (h0:W9.cell? ⟨g,0,none⟩=some u0) (h1:W9.cell? ⟨g,1,none⟩=some u1) (h2:W9.cell? ⟨g,2,none⟩=some u2)
  (h:∀WF,((W9.setCell ⟨g,0,none⟩ v0).setCell ⟨g,1,none⟩ v1).setCell ⟨g,2,none⟩ v2=WF->(WF.cell? ⟨g,0,none⟩=some v0/\WF.cell? ⟨g,1,none⟩=some v1/\WF.cell? ⟨g,2,none⟩=some v2)->bodyPost P fn R .ret a WF) :
  bodyPost P fn R .ret a (((W9.setCell ⟨g,0,none⟩ v0).setCell ⟨g,1,none⟩ v1).setCell ⟨g,2,none⟩ v2):=h _ rfl (zsH h0 h1 h2 rfl)
def Tb (w:World) (g:Nat) (v0 v1 v2:Value):Prop :=
 (w.cell? ⟨g,0,none⟩=some v0/\w.cell? ⟨g,1,none⟩=some v1/\w.cell? ⟨g,2,none⟩=some v2) /\
 w.frozen? ⟨g,0,none⟩=false/\w.frozen? ⟨g,1,none⟩=false/\w.frozen? ⟨g,2,none⟩=false
theorem Tb.lt {w:World} {g:Nat} {a b c:Value} (h:Tb w g a b c):g<w.heap.size:=Zn w _ h.1.1
theorem Tb.new (w:World) (a b c:Value) (t:TypeId):Tb (w.alloc (.cells #[a,b,c] t)) w.heap.size a b c:=by
 have h1:(w.alloc (.cells #[a,b,c] t)).heap[w.heap.size]?=some (.cells #[a,b,c] t):=heap_alloc_new w _
 refine ⟨⟨?_,?_,?_⟩,?_,?_,?_⟩
 ·rw [cell_of_row _ w.heap.size 0 _ t (0,0) h1];rfl
 ·rw [cell_of_row _ w.heap.size 1 _ t (0,0) h1];rfl
 ·rw [cell_of_row _ w.heap.size 2 _ t (0,0) h1];rfl
 all_goals (simp only [World.frozen?];rw [h1];simp)
theorem Tb.but {w w':World} {g:Nat} {a b c:Value} {E:Option Nat} (h:Tb w g a b c) (hb:But E w w') (hne:some g≠E):Tb w' g a b c:=by
 have hl:=h.lt
 obtain ⟨⟨h0,h1,h2⟩,f0,f1,f2⟩:=h
 have hf:∀o,w'.frozen? ⟨g,o,none⟩=w.frozen? ⟨g,o,none⟩:=fun o=>World.frozen?_of_block (hb.block g hl hne)
 exact ⟨⟨(hb.cell (p:=⟨g,0,none⟩) hl hne).trans h0,(hb.cell (p:=⟨g,1,none⟩) hl hne).trans h1,(hb.cell (p:=⟨g,2,none⟩) hl hne).trans h2⟩,(hf 0).trans f0,(hf 1).trans f1,(hf 2).trans f2⟩
theorem Tb.ext {w w':World} {g:Nat} {a b c:Value} (h:Tb w g a b c) (hb:Ext w w'):Tb w' g a b c:=h.but (But.of_ext hb none) (by simp)
theorem Tb.set2 {w:World} {g:Nat} {a b c:Value} (h:Tb w g a b c) (v:Value):Tb (w.setCell ⟨g,2,none⟩ v) g a b v:=by
 obtain ⟨⟨h0,h1,h2⟩,f0,f1,f2⟩:=h
 exact ⟨⟨(Zg _ _ _ _ (by simp)).trans h0,(Zg _ _ _ _ (by simp)).trans h1,Zq _ _ _ h2⟩,
  (Zo _ _ _ _).trans f0,(Zo _ _ _ _).trans f1,(Zo _ _ _ _).trans f2⟩
theorem Tb.set1 {w:World} {g:Nat} {a b c:Value} (h:Tb w g a b c) (v:Value):Tb (w.setCell ⟨g,1,none⟩ v) g a v c:=by
 obtain ⟨⟨h0,h1,h2⟩,f0,f1,f2⟩:=h
 exact ⟨⟨(Zg _ _ _ _ (by simp)).trans h0,Zq _ _ _ h1,(Zg _ _ _ _ (by simp)).trans h2⟩,
  (Zo _ _ _ _).trans f0,(Zo _ _ _ _).trans f1,(Zo _ _ _ _).trans f2⟩
theorem zr4 (w:World) (g:Nat) (a b c:Value):But (some g) w (((w.setCell ⟨g,0,none⟩ a).setCell ⟨g,1,none⟩ b).setCell ⟨g,2,none⟩ c):=by
 have h1:But (some g) w (w.setCell ⟨g,0,none⟩ a):=(But.refl _ _).own rfl _
 have h2:But (some g) w ((w.setCell ⟨g,0,none⟩ a).setCell ⟨g,1,none⟩ b):=h1.own rfl _
 exact h2.own rfl _
structure BlS (w0 wr:World) (R O W H:Nat) (A:Option Addr) (c:Nat) (l:List Bool):Prop where
 ex:Ext w0 wr
 r:Tb wr R (.int .i64 0) (.int .i64 0) (.slice none 0 0)
 o:Tb wr O (.int .i64 (W:Int)) (.int .i64 (H:Int)) (.slice A l.length c)
 ow:OwnV shBool wr w0.heap.size 4 (.slice A l.length c) l.length l
 no:(Value.slice A l.length c).ownBlock≠some O
 nr:(Value.slice A l.length c).ownBlock≠some R
 ro:R≠O
 r0:w0.heap.size<=R
 o0:w0.heap.size<=O
theorem BlS.put {w0 wr wx w6:World} {R O W H:Nat} {A A6:Option Addr} {c c6:Nat} {l:List Bool} {v:Bool} (h:BlS w0 wr R O W H A c l) (hx:Ext wr wx)
  (ho:OwnV shBool w6 w0.heap.size 4 (.slice A6 (l.length+1) c6) (l.length+1) (l++[v])) (he:Ext w0 w6) (hg:wx.grownBy w6 (Value.slice A l.length c).ownBlock/\((Value.slice A6 (l.length+1) c6).ownBlock=(Value.slice A l.length c).ownBlock∨(Value.slice A6 (l.length+1) c6).ownBlock=some wx.heap.size)) :
  BlS w0 (w6.setCell ⟨O,2,none⟩ (.slice A6 (l.length+1) c6)) R O W H A6 c6 (l++[v]):=by
 have hOl:=(h.o.ext hx).lt
 have hRl:=(h.r.ext hx).lt
 have hb:But (some O) w6 (w6.setCell ⟨O,2,none⟩ (.slice A6 (l.length+1) c6)):=(But.refl _ _).own rfl _
 have ab:(Value.slice A6 (l.length+1) c6).ownBlock≠some O:=fun e=>by
  rcases hg.2 with h1 | h1
  ·exact h.no (h1.symm.trans e)
  ·rw [h1] at e
   simp only [Option.some.injEq] at e
   omega
 have ac:(Value.slice A6 (l.length+1) c6).ownBlock≠some R:=fun e=>by
  rcases hg.2 with h1 | h1
  ·exact h.nr (h1.symm.trans e)
  ·rw [h1] at e
   simp only [Option.some.injEq] at e
   omega
 have aa:(l++[v]).length=l.length+1:=by simp
 refine ⟨he.set h.o0 _,((h.r.ext hx).but hg.1 h.nr.symm).but hb (by simpa using h.ro),?_,?_,?_,?_,h.ro,h.r0,h.o0⟩
 ·rw [aa];exact ((h.o.ext hx).but hg.1 h.no.symm).set2 _
 ·rw [aa];exact World.ownsRow.kept ho hb (.inr ab)
 ·rw [aa];exact ab
 ·rw [aa];exact ac
theorem zjh (G c:Nat) (A:Option Addr) (g:Gd) (hg:okG g) (w:World) (hB:GBox w G A c g) (hv:GridAt w A g) :
  Calls Tryz.prog 132 #[.int .i64 (g.h:Int),.int .i64 (g.w:Int),.func (.func 133) #[] #[.pointer (some ⟨G,0,none⟩)]] w fun e w'=>∃A' c',e = .returned (gridV A' c' (turnG g))/\Ext w w'/\OwnV shBool w' w.heap.size 4 (.slice A' (turnG g).b.length c') (turnG g).b.length (turnG g).b:=by
 have az:=Za hg
 have aq:=Za hB
 have HV:=Za hv
 obtain ⟨h1,h2,h3,h4, -⟩:=hg
 obtain ⟨H,hH⟩:∃H,g.w=H:=⟨_,rfl⟩
 obtain ⟨W,hW⟩:∃W,g.h=W:=⟨_,rfl⟩
 have ar:=Za (fun (x y:Nat) (hx:x<W) (hy:y<H) (w':World) (h:Ext w w')=>zlz x y G c A g az.out (by omega) (by omega) w' (aq.out.ext h) (HV.out.ext h))
 have ak:=Za (show turnG g=⟨W,H,(List.range (W*H)).map (fun i=>g.at (i / W) (i % W))⟩ by rw [turnG,hH,hW,Nat.mul_comm])
 rw [hH] at h1 h2
 rw [hW] at h3 h4
 rw [hH,hW]
 obtain ⟨t,ht⟩:∃t,turnG g=t:=⟨_,rfl⟩
 rw [ht] at ak ⊢
 clear hv hB hH hW ht
 have hb:W*H<=4096:=Nat.mul_le_mul h4 h2
 obtain ⟨N,hN⟩:∃N,W*H=N:=⟨_,rfl⟩
 have hm:(W:Int)*(H:Int)=(N:Int):=by rw [<-hN];simp
 have i1:=Zj (N:Int) (by omega)
 obtain ⟨i0,hi,am,hz1,ao⟩:=info_parts zaI
 have aE:∀W',(Instr.makeSlice 52 (.int .i64 0) (.int .i64 (N:Int))).run Tryz.prog W' = .ok (.slice (some ⟨W'.heap.size,0,none⟩) 0 N) (W'.alloc (.cells (madeCells (Value.bool false).cells (N*1)) 4)):=fun W'=>by
  have h9:=run_make (P:=Tryz.prog) W' 52 4 i0 (.bool false) Tryz.underlying52 hi am .i64 .i64 0 (N:Int) (Int.le_refl _) (by omega) (by rw [ao];omega) (by omega)
  simpa [hz1] using h9
 clear i0 hi am hz1 ao
 go_enter Tryz.func132,Tryz.ntmps132
 go_wp2_with fail
 have ah:=Za (show BlS w (((w.alloc (.cells #[.int .i64 0,.int .i64 0,.slice none 0 0] 54)).alloc (.cells (madeCells #[.bool false] N) 4)).alloc (.cells #[.int .i64 (W:Int),.int .i64 (H:Int),.slice (some ⟨w.heap.size+1,0,none⟩) 0 N] 54)) w.heap.size (w.heap.size+1+1) W H (some ⟨w.heap.size+1,0,none⟩) N [] from by
  have e1:Ext w (w.alloc (.cells #[.int .i64 0,.int .i64 0,.slice none 0 0] 54)):=(Ze w).alloc _
  have e3:Ext (w.alloc (.cells #[.int .i64 0,.int .i64 0,.slice none 0 0] 54)) (((w.alloc (.cells #[.int .i64 0,.int .i64 0,.slice none 0 0] 54)).alloc (.cells (madeCells #[.bool false] N) 4)).alloc (.cells #[.int .i64 (W:Int),.int .i64 (H:Int),.slice (some ⟨w.heap.size+1,0,none⟩) 0 N] 54)):=((Ze _).alloc _).alloc _
  refine ⟨e1.trans e3,(Tb.new w _ _ _ _).ext e3,?_,?_,by simp [Value.ownBlock],by simp [Value.ownBlock],by omega,Zb _,by omega⟩
  ·have h9:=Tb.new ((w.alloc (.cells #[.int .i64 0,.int .i64 0,.slice none 0 0] 54)).alloc (.cells (madeCells #[.bool false] N) 4)) (.int .i64 (W:Int)) (.int .i64 (H:Int)) (.slice (some ⟨w.heap.size+1,0,none⟩) 0 N) 54
   simpa using h9
  ·have h9:=World.ownsRow_made (base:=w.heap.size) (e:=4) (size:=1) (w.alloc (.cells #[.int .i64 0,.int .i64 0,.slice none 0 0] 54)) (madeCells #[.bool false] N) N (by simp) (by unfold maxLen;omega) (by simp [madeCells])
   have h8:=World.ownsRow.alloc h9 (.cells #[.int .i64 (W:Int),.int .i64 (H:Int),.slice (some ⟨w.heap.size+1,0,none⟩) 0 N] 54)
   rw [ZP] at h8
   exact h8)
 obtain ⟨W3,al⟩:∃W3,((w.alloc (.cells #[.int .i64 0,.int .i64 0,.slice none 0 0] 54)).alloc (.cells (madeCells #[.bool false] N) 4)).alloc (.cells #[.int .i64 (W:Int),.int .i64 (H:Int),.slice (some ⟨w.heap.size+1,0,none⟩) 0 N] 54)=W3:=⟨_,rfl⟩
 rw [al] at ah ⊢
 clear al aE
 obtain ⟨O,hO⟩:∃O,w.heap.size+1+1=O:=⟨_,rfl⟩
 rw [hO] at ah ⊢
 clear hO
 obtain ⟨LF,hLF⟩:∃LF:Nat->List Bool,LF=fun n=>(List.range n).map (fun i=>g.at (i / W) (i % W)):=⟨_,rfl⟩
 have aw:=Za (show ∀x y,x<W->LF (y*W+x+1)=LF (y*W+x)++[g.at y x] from fun x y hx=>by
  subst hLF
  have e1:(y*W+x) / W=y:=by rw [Nat.mul_comm,Nat.mul_add_div (by omega),Nat.div_eq_of_lt hx,Nat.add_zero]
  have e2:(y*W+x) % W=x:=by rw [Nat.mul_comm,Nat.mul_add_mod,Nat.mod_eq_of_lt hx]
  simp only
  rw [List.range_succ,List.map_append,List.map_singleton,e1,e2])
 have au:=Za (show ∀n,(LF n).length=n from fun n=>by subst hLF;simp)
 have av:=Za (show t=⟨W,H,LF N⟩ by rw [ak.out,hLF,hN])
 have aB:LF 0=[]:=by subst hLF;rfl
 have ax:=Za hN
 have ap:=Za (show ∀x y,x<=W->y<H->y*W+x<=N from fun x y hx hy=>by
  rw [<-hN]
  have:(y+1)*W<=H*W:=Nat.mul_le_mul_right _ hy
  rw [Nat.add_mul,Nat.one_mul,Nat.mul_comm H W] at this
  omega)
 clear hLF hN
 go_loopw [18] (fun yy wr=>∃(y:Nat) (A:Option Addr) (c:Nat),yy = .int .i64 y/\y<=H/\Hid (BlS w wr w.heap.size O W H A c (LF (y*W)))) (fun yy _=>H-(intOf yy).toNat)
 case atStart=>exact ⟨0,_,_,rfl,by omega,Za (by rw [Nat.zero_mul,aB];exact ah.out)⟩
 case round =>
  obtain ⟨y,A1,c1,rfl,hy,HS⟩:=hrel
  by_cases hyl:y<H
  ·have q1:(y:Int)<(H:Int):=by omega
   go_wp2_with fail
   go_loopw [22] (fun xx wr=>∃(x:Nat) (A:Option Addr) (c:Nat),xx = .int .i64 x/\x<=W/\Hid (BlS w wr w.heap.size O W H A c (LF (y*W+x)))) (fun xx _=>W-(intOf xx).toNat)
   case atStart=>exact ⟨0,A1,c1,rfl,by omega,HS⟩
   case round =>
    obtain ⟨x,A2,c2,rfl,hx,ab⟩:=hrel
    by_cases hxl:x<W
    ·have q2:(x:Int)<(W:Int):=by omega
     have ai:=Za (fun w' h=>ar.out x y hxl hyl w' h)
     have ag:=Za (aw.out x y hxl)
     have aD:(LF (y*W+x)).length<=4096:=by rw [au.out];have:=ap.out x y hx hyl;omega
     obtain ⟨v,hv⟩:∃v,g.at y x=v:=⟨_,rfl⟩
     rw [hv] at ai ag
     obtain ⟨ln,af⟩:∃ln,LF (y*W+x)=ln:=⟨_,rfl⟩
     rw [af] at ab ag aD
     obtain ⟨⟨r0,r1,r2⟩,f0,f1,f2⟩:=ab.out.o
     have hOlt:=ab.out.o.lt
     clear hv af
     go_wp2_with fail
     go_region_law (first
      | (go_simp;(go_at_call 133;((with_reducible refine (ai.out _ (ab.out.ex.trans zx)).mono ?_);rintro e w5 ⟨rfl,rfl⟩)))
      | (refine zaM (S:=shBool) (w:=w) (xs:=[v]) 52 4 (.bool false) 1 (by rfl) (by rfl) Tryz.underlying52 zaI (by rfl) (by omega) (by rfl) (by rfl) (ab.out.ow.ext zx) (ab.out.ex.trans zx) (Vec.ext (Vec.lit2 (w:=wr) (by rfl) (by rfl) (by rfl)) ((Ze _).drew)) (by omega) ?_;intro v' w6 aa ae ac;obtain ⟨A6,c6,rfl, -⟩:=zao aa;have ay:=Za ((ab.out.o.ext zx).but ac.out.1 ab.out.no.symm);obtain ⟨⟨p0,p1,p2⟩,g0,g1,g2⟩:=ay.out))
     all_goals
      have aj:=Za (ab.out.put zx aa ae.out ac.out)
      rw [<-ag.out] at aj
      clear aa ac p0 p1 p2 g0 g1 g2
      go_wp2_with fail
      go_roundw
      case rel=>exact ⟨x+1,A6,c6,by go_num,by omega,aj⟩
      case measure=>simp [intOf];omega
    ·obtain rfl:x=W:=by omega
     have aA:=Za (show BlS w wr w.heap.size O x H A2 c2 (LF ((y+1)*x)) by rw [Nat.add_mul,Nat.one_mul];exact ab.out)
     go_wp2_with fail
     go_roundw
     case rel=>exact ⟨y+1,A2,c2,by go_num,by omega,aA⟩
     case measure=>simp [intOf];omega
  ·obtain rfl:y=H:=by omega
   have ad:=Za (show BlS w wr w.heap.size O W y A1 c1 (LF N) by
    have h9:=ax.out
    rw [Nat.mul_comm] at h9
    rw [<-h9];exact HS.out)
   obtain ⟨⟨r0,r1,r2⟩,f0,f1,f2⟩:=ad.out.r
   obtain ⟨⟨p0,p1,p2⟩, -⟩:=ad.out.o
   go_wp2
   refine zbW r0 r1 r2 fun WF hWF ⟨v0,v1,v2⟩=>?_
   obtain ⟨B9,hB9⟩:∃B9,LF N=B9:=⟨_,rfl⟩
   have af:=av.out
   rw [hB9] at af ad hWF v2 ⊢
   subst af
   refine bodyPost_ret (v := .agg #[.int .i64 (W:Int),.int .i64 (y:Int),.slice A1 B9.length c1]) (by simp [results,Tryz.f132,go_sem,v0,v1,v2]) rfl ⟨A1,c1,rfl,?_,?_⟩
   ·rw [<-hWF]
    exact ((ad.out.ex.set (Zb _) _).set (Zb _) _).set (Zb _) _
   ·rw [<-hWF]
    have aC:=zr4 wr w.heap.size (.int .i64 (W:Int)) (.int .i64 (y:Int)) (.slice A1 B9.length c1)
    exact World.ownsRow.kept ad.out.ow aC (.inr ad.out.nr)
def GridR (g:Gd) (w:World) (e:Ending) (w':World):Prop:=∃b off c,e = .returned (.tuple #[gridV (some ⟨b,off,none⟩) c g,.int .i64 0])/\Ext w w'/\GridAt w' (some ⟨b,off,none⟩) g/\g.b.length<=c/\w.heap.size<=b/\b<w'.heap.size/\NoB w' b
theorem zhq {w WF:World} {A:Option Addr} {c B:Nat} {g:Gd} (hok:okG g) (hB:w.heap.size<=B) (ho:OwnV shBool WF B 4 (.slice A g.b.length c) g.b.length g.b) (hx:Ext w WF) :
  GridR g w (.returned (.tuple #[gridV A c g,.int .i64 0])) WF:=by
 have hc:=zeM ho
 obtain ⟨A',c',e1,hv,hb⟩:=zan ho
 cases e1
 obtain ⟨b,off,rfl,hlt, -⟩:=zbC (g:=g) hv hok
 exact ⟨b,off,c,rfl,hx,hv,hc,Zv hB (hb (Nat.lt_of_le_of_lt (ZK _) (zet hok (x:=0) (y:=0) (by have:=hok.1;omega) (by have:=hok.2.2.1;omega))) b off rfl),hlt,NoB.row (e:=4) ho (by decide)⟩
theorem zj0 (A:Option Addr) (c:Nat) (g:Gd) (hg:okG g) (w:World) (hv:GridAt w A g) :
  Calls Tryz.prog 95 #[gridV A c g] w (GridR (turnG g) w):=by
 have HOK:=Za hg
 have HV:=Za hv
 have ah:=Za (fun w'=>za1 A c g hg w')
 have ag:=Za (fun (w':World) (hB:GBox w' w.heap.size A c g) (h:Ext w w')=>zjh w.heap.size c A g hg w' hB (hv.ext h))
 have HT:=Za (zh1 hg)
 obtain ⟨t,ht⟩:∃t,turnG g=t:=⟨_,rfl⟩
 rw [ht] at ag HT ⊢
 clear hg hv ht
 have al:=Za (GBox.new w A c g 54)
 have aj:=Za (Tb.new (w.alloc (.cells #[.int .i64 (g.w:Int),.int .i64 (g.h:Int),.slice A g.b.length c] 54)) (.int .i64 0) (.int .i64 0) (.slice none 0 0) 54)
 rw [ZP] at aj
 unfold gridV at ah ⊢
 go_enter Tryz.func95,Tryz.ntmps95
 go_wp2_with (first
  | (go_at_call 59;((with_reducible refine (ah.out _).mono ?_);rintro e w1 ⟨rfl,aa⟩;have ab:=Za (al.out.ext (((Ze _).alloc _).trans aa));have ac:=Za (aj.out.ext aa);have ae:=Za (show Ext w w1 from (((Ze w).alloc _).alloc _).trans aa);have b0:=ab.out.c0;have b1:=ab.out.c1;obtain ⟨⟨r0,r1,r2⟩,f0,f1,f2⟩:=ac.out;clear aa)))
 refine (ag.out w1 ab.out ae.out).mono ?_
 rintro e w2 ⟨A2,c2,rfl,af,ak⟩
 have am:=Za (ac.out.ext af)
 have ao:=Za (show w.heap.size<=w1.heap.size from Zt ae.out)
 have ad:=Za ac.out.lt
 have ap:=Za (ae.out.trans af)
 have ai:=Za ak
 clear r0 r1 r2 f0 f1 f2 b0 b1 ak af
 obtain ⟨⟨r0,r1,r2⟩,f0,f1,f2⟩:=am.out
 unfold gridV
 go_wp2
 refine zbW r0 r1 r2 fun WF hWF ⟨v0,v1,v2⟩=>?_
 refine bodyPost_ret (v := .tuple #[gridV A2 c2 t,.int .i64 0]) (by simp [results,Tryz.f95,go_sem,v0,v1,v2]) rfl (zhq HT.out ao.out ?_ ?_)
 ·rw [<-hWF]
  have aq:=zr4 w2 (w.heap.size+1) (.int .i64 (t.w:Int)) (.int .i64 (t.h:Int)) (.slice A2 t.b.length c2)
  refine World.ownsRow.kept ai.out aq (.inr fun e=>?_)
  have h9:=(OwnV.blk ai.out _ e).1
  have:=ad.out
  omega
 ·rw [<-hWF]
  exact ((ap.out.set (Nat.le_succ _) _).set (Nat.le_succ _) _).set (Nat.le_succ _) _
end Go.Proofs.YtbjgpbojjhldaaaGreatDoor
/- Regions that draw their order: a fact on the world that holds behind each operation but the last one. -/
namespace Go.Proofs.YtbjgpbojjhldaaaGreatDoor
set_option maxRecDepth 100000
section
variable {P:Program} {md:Region.Mode} {ops:Array Oper} {Q:Exit->Act->World->Prop} {F:World->Prop}
def AllL (l:Array Bool):Prop:=l.all id=true
theorem AllL.no {l:Array Bool} {i:Nat} (h:AllL l) (hi:l.getD i true=false):False:=by
 by_cases hlt:i<l.size
 ·have h1:l[i]=false:=by simpa [hlt] using hi
  have h2:=Array.all_eq_true.1 h i hlt
  simp [h1] at h2
 ·simp [Array.getElem?_eq_none (Nat.le_of_not_lt hlt)] at hi
theorem AllL.set {l:Array Bool} {i:Nat} (h:AllL l):AllL (l.setIfInBounds i true):=by
 rw [AllL,Array.all_eq_true] at h ⊢
 intro j hj
 by_cases e:i=j
 ·subst e;simp
 ·rw [Array.getElem_setIfInBounds_ne _ e]
  exact h j (by simpa using hj)
def wpL (P:Program) (md:Region.Mode) (ops:Array Oper) (Q:Exit->Act->World->Prop) (F:World->Prop):Nat->Array Bool->Act->World->Prop
 | 0,l,a,w=>Region.ready md ops l=[]/\Q .normal a w
 | f+1,l,a,w=>(Region.ready md ops l=[]->Q .normal a w) /\
  ∀i∈Region.ready md ops l,wpOp P ops Q i (fun a' w'=>(AllL (l.setIfInBounds i true)∨F w')/\wpL P md ops Q F f (l.setIfInBounds i true) a' w') a w
theorem zlJ:∀(f:Nat) (l:Array Bool) (a:Act) (w:World),wpL P md ops Q F f l a w->wpAny P md ops Q f l a w
 | 0,_,_,_,h=>h
 | f+1,_,_,_,h=>⟨h.1,fun i hi=>wpOp_mono (fun a' w' h'=>zlJ f _ a' w' h'.2) (h.2 i hi)⟩
theorem zlK {i z:Nat} {oi oz:Oper} {v:Value} (hi:ops[i]?=some oi) (hz:ops[z]?=some oz) (hzi:∃x∈oz.after,Region.binds md x=true/\x.on=i) (hne:z≠i) (hsel:∀(j:Nat) (o:Oper) cs b,ops[j]?=some o->o.op ≠ .select cs b) (hQ:∀c a w,Q (.panic c) (a.put oi.dst v) w->Q (.panic c) a w) :
  ∀(f:Nat) (l:Array Bool) (a:Act) (w:World),(∀j oj,ops[j]?=some oj->j≠i->l.getD j true=false->(∀e∈oj.after,Region.binds md e=true->e.on≠i)->oi.apart ops oj=true) ->
   l.getD z true=false->i∈Region.ready md ops l->YieldsIf P ops F oi v a->F w->wpL P md ops Q F f (l.setIfInBounds i true) (a.put oi.dst v) w->wpL P md ops Q F (f+1) l a w:=by
 intro f
 induction f with
 | zero =>
  intro l a w _ _ hr hy hF H
  refine ⟨fun h=>(by rw [h] at hr;cases hr),fun j hj=>?_⟩
  by_cases e:j=i
  ·subst e
   exact hy.wpOp hi hF ⟨.inr hF,H⟩
  ·have h9:=ready_mono hj e
   rw [H.1] at h9
   cases h9
 | succ f ih =>
  intro l a w aa aj hr hy hF H
  refine ⟨fun h=>(by rw [h] at hr;cases hr),fun j hj=>?_⟩
  by_cases e:j=i
  ·subst e
   exact hy.wpOp hi hF ⟨.inr hF,H⟩
  ·obtain ⟨ac,oj,ad,ae⟩:=mem_ready.1 hj
   have ab:=(mem_ready.1 hr).1
   have af:∀x∈oj.after,Region.binds md x=true->x.on≠i:=fun x hx hb heq=>by
    have h1:=ae x hx hb
    rw [heq] at h1
    by_cases hlt:i<l.size
    ·simp [hlt] at h1 ab
     rw [ab] at h1
     cases h1
    ·simp [Array.getElem?_eq_none (Nat.le_of_not_lt hlt)] at h1
   have ai:j≠z:=by
    rintro rfl
    rw [ad] at hz
    cases hz
    obtain ⟨x,hx,hb,ho⟩:=hzi
    exact af x hx hb ho
   have ag:(l.setIfInBounds j true).getD z true=false:=by rw [getD_set_ne true ai];exact aj
   have h2:=wpOp_putIf ad (aa j oj ad e ac af) (fun cs b=>hsel i oi cs b hi) (fun cs b=>hsel j oj cs b ad) hQ hy (H.2 j (ready_mono hj e))
   refine wpOp_mono (fun a' w' h3=>?_) h2
   obtain ⟨h4,h5,h6⟩:=h3
   have ah:(l.setIfInBounds i true).setIfInBounds j true=(l.setIfInBounds j true).setIfInBounds i true:=Array.setIfInBounds_comm _ _ (fun x=>e x.symm)
   rw [ah] at h5 h6
   rcases h5 with h5 | h5
   ·exact (h5.no (i:=z) (by rw [getD_set_ne true (fun x=>hne x.symm)];exact ag)).elim
   ·refine ⟨.inr h5,ih _ a' w' (fun k ok hok hki hku hkn=>?_) ag (ready_mono hr (fun x=>e x.symm)) h4 h5 h6⟩
    refine aa k ok hok hki ?_ hkn
    by_cases x:j=k
    ·subst x;exact ac
    ·rw [getD_set_ne true x] at hku;exact hku
theorem zak {i:Nat} (z:Nat) {oi oz:Oper} {v:Value} {f:Nat} {l:Array Bool} {a:Act} {w:World} (hi:ops[i]?=some oi) (hz:ops[z]?=some oz) (hzi:(oz.after.any fun x=>Region.binds md x && x.on==i)=true) (hne:(z==i)=false) (hzl:l.getD z true=false)
  (hs:Region.noSelect ops=true) (hf:Region.free md ops l i=true) (hr:(Region.ready md ops l).contains i=true) (hQ:∀c a w,Q (.panic c) (a.put oi.dst v) w->Q (.panic c) a w) (hF:F w) (hy:YieldsIf P ops F oi v a)
  (h:wpL P md ops Q F f (l.setIfInBounds i true) (a.put oi.dst v) w):wpL P md ops Q F (f+1) l a w:=by
 refine zlK hi hz ?_ (by simpa using hne) (Region.noSelect_spec hs) hQ f l a w (Region.free_spec hi hf) hzl (by simpa using hr) hy hF h
 obtain ⟨x,hx,h2⟩:=Array.any_eq_true'.1 hzi
 simp only [Zp,beq_iff_eq] at h2
 exact ⟨x,hx,h2.1,h2.2⟩
theorem zbH {i:Nat} {o:Oper} {f:Nat} {l:Array Bool} {a:Act} {w:World} (ho:ops[i]?=some o) (hr:Region.ready md ops l=[i])
  (h:∀K:Act->World->Prop,(∀a' w',(AllL (l.setIfInBounds i true)∨F w')/\wpL P md ops Q F f (l.setIfInBounds i true) a' w'->K a' w')->if Region.wanted o (yielded ops a.tmps)=true then Oper.wp P o a w K Q else False):wpL P md ops Q F (f+1) l a w:=by
 refine ⟨fun h0=>(by rw [h0] at hr;cases hr),fun j hj=>?_⟩
 rw [hr] at hj
 obtain rfl:j=i:=by simpa using hj
 have h1:=h _ (fun _ _ h=>h)
 unfold wpOp
 simp only [ho]
 split
 ·rename_i hw
  rw [if_pos hw] at h1
  exact .inl h1
 ·rename_i hw
  rw [if_neg hw] at h1
  exact h1.elim
theorem zh5 {l:Array Bool} {a:Act} {w:World} (hr:Region.ready md ops l=[]) (h:Q .normal a w):∀f,wpL P md ops Q F f l a w
 | 0=>⟨hr,h⟩
 | _+1=>⟨fun _=>h,by rw [hr];simp⟩
theorem zdU {id:Nat} {a:Act} {w:World} (F:World->Prop) (hm:P.follows .mixedOrders=true) (h:wpL P .any ops Q F ops.size (Array.replicate ops.size false) a w.drew):(Code.region id ops true).wp P Q a w :=
 wp_region_any hm (zlJ _ _ _ _ h)
end
end Go.Proofs.YtbjgpbojjhldaaaGreatDoor
/- hang.newOrder: the memory. -/
namespace Go.Proofs.YtbjgpbojjhldaaaGreatDoor
set_option maxRecDepth 100000
open Go.RowKit Go.ChangeShapes Go.WideShapes Go.Joins
structure NoI (w1 wx:World) (O B A n:Nat):Prop where
 ex:Ext w1 wx
 hb:wx.heap[B]?=some (.cells (madeCells #[.slice none 0 0] n) 51 (0,0))
 ha:wx.heap[A]?=some (.cells (madeCells #[.slice none 0 0] n) 51 (0,0))
 ho:wx.heap[O]?=some (.cells #[.slice (some ⟨B,0,none⟩) n n,.slice (some ⟨A,0,none⟩) n n] 153 (0,0))
 ne:B≠A/\O≠A/\O≠B
 ge:w1.heap.size<=B/\w1.heap.size<=A/\w1.heap.size<=O
theorem zar (w1:World) (a1 a2 a3:Obj):Ext w1 (((w1.alloc a1).alloc a2).alloc a3).drew/\(((w1.alloc a1).alloc a2).alloc a3).drew.heap[w1.heap.size]?=some a1/\(((w1.alloc a1).alloc a2).alloc a3).drew.heap[w1.heap.size+1]?=some a2/\(((w1.alloc a1).alloc a2).alloc a3).drew.heap[w1.heap.size+1+1]?=some a3:=by
 have h1:=heap_alloc_new w1 a1
 have h2:=heap_alloc_new (w1.alloc a1) a2
 have h3:=heap_alloc_new ((w1.alloc a1).alloc a2) a3
 rw [ZP] at h2
 rw [ZP,ZP] at h3
 refine ⟨((((Ze w1).alloc a1).alloc a2).alloc a3).drew,?_,?_,h3⟩
 ·exact (Below.heap_alloc _ _ _ (by simp;omega)).trans ((Below.heap_alloc _ _ _ (by simp)).trans h1)
 ·exact (Below.heap_alloc _ _ _ (by simp)).trans h2
def adr (B A n j:Nat):Addr:=if j<n then ⟨B,j,none⟩ else ⟨A,j-n,none⟩
theorem zhb {B A n j:Nat} (h:j<n):adr B A n j=⟨B,j,none⟩:=if_pos h
theorem zha {B A n j:Nat}:adr B A n (n+j)=⟨A,j,none⟩:=by
 unfold adr
 rw [if_neg (by omega),Nat.add_sub_cancel_left]
theorem zi8 (B A n j:Nat):(adr B A n j).block=B∨(adr B A n j).block=A:=by
 unfold adr
 split
 ·exact .inl rfl
 ·exact .inr rfl
structure NoS (wB wr:World) (B A n:Nat) (v:Nat->Value) (xs:Nat->List Int):Prop where
 os:wr.os=wB.os
 tape:wr.tape=wB.tape
 output:wr.output=wB.output
 size:wB.heap.size<=wr.heap.size
 kept:∀b,b<wB.heap.size->b≠B->b≠A->wr.heap[b]?=wB.heap[b]?
 fam:Fam wr wB.heap.size 3 (fun j=>j<2*n) (adr B A n) v xs
theorem NoS.below {w wB wr:World} {B A n:Nat} {v:Nat->Value} {xs:Nat->List Int} (h:NoS wB wr B A n v xs) (hx:Ext w wB) (hB:w.heap.size<=B) (hA:w.heap.size<=A):Ext w wr :=
 ⟨h.os.trans hx.os,h.tape.trans hx.tape,h.output.trans hx.output,Zv hx.size h.size,fun b hb=>(h.kept b (Zi hb hx.size) (by omega) (by omega)).trans (hx.block b hb)⟩
theorem NoS.start {w1 wB:World} {O B A n:Nat} (h:NoI w1 wB O B A n):NoS wB wB B A n (fun _ => .slice none 0 0) (fun _=>[]):=by
 refine ⟨rfl,rfl,rfl,Zb _,fun _ _ _ _=>rfl,?_⟩
 have hn:∀j,j<n->(madeCells #[Value.slice none 0 0] n)[j]?=some (.slice none 0 0):=fun j hj=>by simp [madeCells,hj,Nat.mod_one]
 refine ⟨fun j hj=>?_,fun j _=>OwnI.nil _ _ _,fun i j hi hj hij e=>?_,fun i j _ _=>by simp [Value.ownBlock],fun i j b _ _ _ h9=>by simp [Value.ownBlock] at h9⟩
 ·unfold adr
  split
  ·rename_i h1
   refine ⟨by rw [cell_of_row wB B j _ _ (0,0) h.hb];exact hn j h1,?_⟩
   simp only [World.frozen?]
   rw [h.hb]
   simp
  ·refine ⟨by rw [cell_of_row wB A (j-n) _ _ (0,0) h.ha];exact hn (j-n) (by omega),?_⟩
   simp only [World.frozen?]
   rw [h.ha]
   simp
 ·unfold adr at e
  have hne:=h.ne.1
  split at e <;> split at e <;> simp at e <;> omega
theorem NoS.mid {wB wr wx w6:World} {B A n j:Nat} {v:Nat->Value} {xs:Nat->List Int} {V0:Value} (h:NoS wB wr B A n v xs) (hj:j<2*n) (hv:v j=V0) (hx:Ext wr wx) (hg:wx.grownBy w6 V0.ownBlock) :
  (w6.cell? (adr B A n j)=some V0/\w6.frozen? (adr B A n j)=false)/\∀b,b<wB.heap.size->b≠B->b≠A->w6.heap[b]?=wB.heap[b]?:=by
 subst hv
 have hb:But (v j).ownBlock wx w6:=hg
 have h1:=(h.fam.ext hx).cell j hj
 have hl:=(h.fam.ext hx).lt hj
 have hne:some (adr B A n j).block≠(v j).ownBlock:=fun e=>h.fam.off j j hj hj e.symm
 refine ⟨⟨(hb.cell hl hne).trans h1.1,(World.frozen?_of_block (hb.block _ hl hne)).trans h1.2⟩,fun b hb1 hb2 hb3=>?_⟩
 have aa:b<wr.heap.size:=Zi hb1 h.size
 refine (hb.block b (Zi aa hx.size) (fun e=>?_)).trans ((hx.block b aa).trans (h.kept b hb1 hb2 hb3))
 have:=(zas (h.fam.row j hj) b e.symm).1
 omega
theorem NoS.put {wB wr wx w6:World} {B A n j:Nat} {v:Nat->Value} {xs:Nat->List Int} {u V0:Value} {ys:List Int} (h:NoS wB wr B A n v xs) (hj:j<2*n) (hv:v j=V0) (hx:Ext wr wx) (ho:OwnI w6 wB.heap.size 3 u ys.length ys)
  (hg:wx.grownBy w6 V0.ownBlock/\(u.ownBlock=V0.ownBlock∨u.ownBlock=some wx.heap.size)):NoS wB (w6.setCell (adr B A n j) u) B A n (fun i=>if i=j then u else v i) (fun i=>if i=j then ys else xs i):=by
 subst hv
 have h6:=h.mid hj rfl hx hg.1
 have hb:But (v j).ownBlock wx w6:=hg.1
 have hs:But (some (adr B A n j).block) w6 (w6.setCell (adr B A n j) u):=(But.refl _ _).own rfl u
 refine ⟨hs.os.trans (hb.os.trans (hx.os.trans h.os)),hs.tape.trans (hb.tape.trans (hx.tape.trans h.tape)),hs.output.trans (hb.output.trans (hx.output.trans h.output)),Zv h.size (Zv hx.size (Zv hb.size hs.size)),fun b hb1 hb2 hb3=>?_,?_⟩
 ·refine (hs.block b (Zi hb1 (Zv h.size (Zv hx.size hb.size))) (fun e=>?_)).trans (h6.2 b hb1 hb2 hb3)
  rcases zi8 B A n j with e2 | e2 <;> rw [e2] at e <;> simp only [Option.some.injEq] at e <;> omega
 ·exact (h.fam.ext hx).put hj hg.1 ho hg.2
theorem NoS.ext {wB wr w':World} {B A n:Nat} {v:Nat->Value} {xs:Nat->List Int} (h:NoS wB wr B A n v xs) (hx:Ext wr w'):NoS wB w' B A n v xs :=
 ⟨hx.os.trans h.os,hx.tape.trans h.tape,hx.output.trans h.output,Zv h.size hx.size,fun b hb1 hb2 hb3=>(hx.block b (Zi hb1 h.size)).trans (h.kept b hb1 hb2 hb3),h.fam.ext hx⟩
section
variable {P:Program} {ops:Array Oper} {o:Oper} {a:Act} {K:Act->World->Prop} {Q:Exit->Act->World->Prop} {E:Prop} {wx:World}
theorem zcR (T e:TypeId) {s x:Operand} {v:Value} {B g k:Nat} {L:List Int} (X:Int) (hgd:o.guard=none) (ho:o.op = .call { callee := .builtin .append,args:=#[s,x],argTypes:=#[T,T] })
  (ht:P.underlying T=some (.slice e)) (hinfo:(P.info? e).map (fun i=>(i.zero,i.size,i.bytes))=some (some (.int .i64 0),1,8))
  (hs:a.eval s=v) (hx:a.eval x = .slice (some ⟨g,0,none⟩) 1 1) (hown:OwnI wx B e v k L) (hB:B<=wx.heap.size) (hc:wx.cell? ⟨g,0,none⟩=some (.int .i64 X)) (hk:k<=100000)
  (h:∀v' w1,Hid (OwnI w1 B e v' (L++[X]).length (L++[X]))->Hid (wx.grownBy w1 v.ownBlock/\(v'.ownBlock=v.ownBlock∨v'.ownBlock=some wx.heap.size))->K (a.put o.dst v') w1) :
  if Region.wanted o (yielded ops a.tmps)=true then Oper.wp P o a wx K Q else E:=by
 have hw:Region.wanted o (yielded ops a.tmps)=true:=by simp [Region.wanted,hgd]
 rw [if_pos hw]
 refine zby (news:=[.int .i64 X]) T e (.int .i64 0) 1 8 ho ht hinfo rfl (by omega) (by omega) hs hx B hown hB (by simp) (fun _=>⟨_,rfl,fun j u hj=>by
   rcases j with _ | j
   ·simp at hj
    subst hj
    exact hc
   ·simp at hj⟩) (fun u hu=>by simp at hu;subst hu;rfl) (by omega) fun v' w1 h1 h2 h3=>h v' w1 ?_ ⟨h2,h3⟩
 have hl:(L++[X]).length=k+1:=by
  have h9:=hown.1
  simp at h9 ⊢
  exact h9
 show OwnI w1 B e v' (L++[X]).length (L++[X])
 unfold OwnI
 rw [hl,List.map_append]
 exact h1
end
theorem zeI (l:List Int) (x:Int):(l++[x]).length=l.length+1:=by simp
theorem zrt {xs2:Nat->List Int} {g:Gd} {x y n dn up:Nat} (h:∀a,a<n->xs2 (n+a)=zL (upTo g x y a)) (he:∀a,upTo g x (y+1) a=if a=dn then upTo g x y a++[up] else upTo g x y a) (hd:dn<n) :
  ∀a,a<n->(fun i=>if i=n+dn then xs2 (n+dn)++[(up:Int)] else xs2 i) (n+a)=zL (upTo g x (y+1) a):=by
 intro a ha
 show (if n+a=n+dn then _ else _)=_
 rw [he a]
 by_cases e:a=dn
 ·subst e
  rw [if_pos rfl,if_pos rfl,h a ha,zL,zL,List.map_append]
  rfl
 ·rw [if_neg (by omega),if_neg e]
  exact h a ha
theorem zrq {xs2:Nat->List Int} {ys:List Int} {n dn m:Nat} (h:∀a,a<n->(xs2 a).length<=m):∀a,a<n->((fun i=>if i=n+dn then ys else xs2 i) a).length<=m:=by
 intro a ha
 show (if a=n+dn then _ else _:List Int).length<=m
 rw [if_neg (by omega)]
 exact h a ha
theorem zrs {xs:Nat->List Int} {ys:List Int} {g:Gd} {x y n up:Nat} (h:∀a,a<n->xs (n+a)=zL (upTo g x y a)) (hu:up<n):∀a,a<n->(fun i=>if i=up then ys else xs i) (n+a)=zL (upTo g x y a):=by
 intro a ha
 show (if n+a=up then _ else _)=_
 rw [if_neg (by omega)]
 exact h a ha
theorem zrr {xs:Nat->List Int} {z:Int} {n up m:Nat} (h:∀a,a<n->(xs a).length<=m) (hu:up<n):∀a,a<n->((fun i=>if i=up then xs up++[z] else xs i) a).length<=m+1:=by
 intro a ha
 show (if a=up then _ else _:List Int).length<=m+1
 split
 ·rename_i e
  subst e
  have:=h a ha
  rw [zeI]
  omega
 ·exact Nat.le_succ_of_le (h a ha)
end Go.Proofs.YtbjgpbojjhldaaaGreatDoor
/- slices.Sort on a row of one's own. -/
namespace Go.Proofs.YtbjgpbojjhldaaaGreatDoor
set_option maxRecDepth 100000
open Go.RowKit Go.ChangeShapes Go.WideShapes Go.Joins
theorem ziv {B k:Nat} {v:Value} {l:List Int} (hk:k<=100000) (w:World) (h:OwnI w B 3 v k l) :
  Calls Tryz.prog 136 #[v] w fun e w'=>e = .returned (.tuple #[])/\But v.ownBlock w w'/\∃l',OwnI w' B 3 v k l':=by
 have hl:l.length=k:=by simpa using h.1
 rcases h.2 with ⟨h1,h2⟩ | ⟨g,cap,cur,h1,hb,hg,hn,hm,hs,ht⟩
 ·subst h1
  refine (Tryz.slices_Sort_int_none none 0 w).mono ?_
  rintro e w' ⟨rfl,rfl⟩
  exact ⟨rfl,But.refl _ _,l,h⟩
 ·subst h1
  have hh:=holds_of_blockI (ss:=l) hg (by rw [hl];simpa using ht)
  have hc:=Tryz.slices_Sort_int g 0 cap l w hh (Zh.1 hg).1 (by omega)
  rw [hl] at hc
  refine hc.mono ?_
  rintro e w' ⟨rfl,n,os,rfl⟩
  refine ⟨rfl,grownBy_sortedI _,l.mergeSort (fun x y=>decide (x<=y)),?_⟩
  have h9:=ownsRow_sortedI (w:=w) (n:=n) (os:=os) (ss:=l) (ts:=l.mergeSort (fun x y=>decide (x<=y))) (by simp) hb hg (by omega) hm hs
  rw [hl] at h9
  exact h9
theorem NoS.turn {wB wr w':World} {B A n j:Nat} {v:Nat->Value} {xs:Nat->List Int} {l:List Int} (h:NoS wB wr B A n v xs) (hj:j<2*n) (hb:But (v j).ownBlock wr w') (ho:OwnI w' wB.heap.size 3 (v j) (xs j).length l) :
  NoS wB w' B A n v (fun i=>if i=j then l else xs i):=by
 have hl:l.length=(xs j).length:=by simpa using ho.1
 have hne:∀i,i<2*n->some (adr B A n i).block≠(v j).ownBlock:=fun i hi e=>h.fam.off i j hi hj e.symm
 refine ⟨hb.os.trans h.os,hb.tape.trans h.tape,hb.output.trans h.output,Zv h.size hb.size,fun b h1 h2 h3=>?_,⟨fun i hi=>?_,fun i hi=>?_,h.fam.one,h.fam.off,h.fam.two⟩⟩
 ·refine (hb.block b (Zi h1 h.size) (fun e=>?_)).trans (h.kept b h1 h2 h3)
  have:=(zas (h.fam.row j hj) b e.symm).1
  omega
 ·have h9:=h.fam.cell i hi
  exact ⟨(hb.cell (h.fam.lt hi) (hne i hi)).trans h9.1,(World.frozen?_of_block (hb.block _ (h.fam.lt hi) (hne i hi))).trans h9.2⟩
 ·by_cases e:i=j
  ·subst e
   simp only [if_true]
   rw [hl]
   exact ho
  ·simp only [if_neg e]
   refine World.ownsRow.kept (h.fam.row i hi) hb ?_
   cases hv:(v i).ownBlock with
   | none=>exact .inl rfl
   | some b=>exact .inr (fun e2=>h.fam.two i j b hi hj e hv e2.symm)
end Go.Proofs.YtbjgpbojjhldaaaGreatDoor
/- hang.newOrder. -/
namespace Go.Proofs.YtbjgpbojjhldaaaGreatDoor
set_option maxRecDepth 100000
open Go.RowKit Go.ChangeShapes Go.WideShapes Go.Joins
theorem zp5 {P:Program} {fn:Func} {R:Ending->World->Prop} {a:Act} {W9:World} {g:Nat} {u0 u1 v0 v1:Value} (h0:W9.cell? ⟨g,0,none⟩=some u0) (h1:W9.cell? ⟨g,1,none⟩=some u1)
  (h:∀WF,But (some g) W9 WF->(WF.cell? ⟨g,0,none⟩=some v0/\WF.cell? ⟨g,1,none⟩=some v1)->bodyPost P fn R .ret a WF):bodyPost P fn R .ret a ((W9.setCell ⟨g,0,none⟩ v0).setCell ⟨g,1,none⟩ v1):=by
 have a1:(W9.setCell ⟨g,0,none⟩ v0).cell? ⟨g,1,none⟩=some u1:=(Zg _ _ _ _ (by simp)).trans h1
 have b1:But (some g) W9 (W9.setCell ⟨g,0,none⟩ v0):=(But.refl _ _).own rfl _
 exact h _ (b1.own rfl _) ⟨(Zg _ _ _ _ (by simp)).trans (Zq _ _ _ h0),Zq _ _ _ a1⟩
theorem NoS.adj {wB wr WF:World} {B A n R:Nat} {v:Nat->Value} {xs:Nat->List Int} {nx:Nat->List Nat} (h:NoS wB wr B A n v xs) (hu:∀a,a<n->xs (n+a)=zL (nx a)) (hb:But (some R) wr WF) (hA:A≠R) (hR:R<wB.heap.size) (hAl:A<wr.heap.size):Adj WF (some ⟨A,0,none⟩) n nx:=by
 refine ⟨A,0,rfl,Zi hAl hb.size,fun j hj=>?_⟩
 have hc:=(h.fam.cell (n+j) (by omega)).1
 rw [zha] at hc
 have hr:=h.fam.row (n+j) (by omega)
 have aa:OwnI WF wB.heap.size 3 (v (n+j)) (xs (n+j)).length (xs (n+j)):=World.ownsRow.kept hr hb (.inr (fun e=>by
  have:=(zas hr R e).1
  omega))
 rw [hu j hj,zbR] at aa
 obtain ⟨Aj,cj,hv,hi⟩:=zaB aa
 rw [hv] at hc
 refine ⟨Aj,cj,?_,hi⟩
 rw [Nat.zero_add]
 exact (hb.cell (p:=⟨A,j,none⟩) hAl (by simpa using hA)).trans hc
theorem zj3 (b off c:Nat) (g:Gd) (hg:okG g) (w:World) (hv:GridAt w (some ⟨b,off,none⟩) g) :
  Calls Tryz.prog 100 #[gridV (some ⟨b,off,none⟩) c g] w fun e w'=>∃V A c',e = .returned (.agg #[V,.slice A (g.w+g.h) c'])/\Adj w' A (g.w+g.h) (upOf g)/\Ext w w':=by
 obtain ⟨h1,h2,h3,h4,h5⟩:=id hg
 obtain ⟨W,hW⟩:∃W,g.w=W:=⟨_,rfl⟩
 obtain ⟨H,hH⟩:∃H,g.h=H:=⟨_,rfl⟩
 obtain ⟨L,hL⟩:∃L,g.b.length=L:=⟨_,rfl⟩
 rw [hW] at h1 h2
 rw [hH] at h3 h4
 unfold gridV
 rw [hW,hH,hL]
 obtain ⟨n,hn⟩:∃n,W+H=n:=⟨_,rfl⟩
 have e1:(W:Int)+(H:Int)=(n:Int):=by omega
 have i1:=Zj (n:Int) (by omega)
 rw [hn]
 have hn2:n<=128:=by omega
 have hn1:2<=n:=by omega
 have aN:(Tryz.prog.info? 51).map (fun i=>(i.zero,i.size,i.bytes))=some (some (.slice none 0 0),1,24):=by kernel_rfl
 obtain ⟨i0,hi,aN,hz1,bc⟩:=info_parts aN
 have bC:∀W',(Instr.makeSlice 151 (.int .i64 (n:Int)) (.int .i64 (n:Int))).run Tryz.prog W' = .ok (.slice (some ⟨W'.heap.size,0,none⟩) n n) (W'.alloc (.cells (madeCells (Value.slice none 0 0).cells (n*1)) 51)):=fun W'=>by
  have h9:=run_make (P:=Tryz.prog) W' 151 51 i0 (.slice none 0 0) Tryz.underlying151 hi aN .i64 .i64 (n:Int) (n:Int) (by omega) (Int.le_refl _) (by rw [bc];omega) (by omega)
  simpa [hz1] using h9
 have af:=Za (show g.w=W/\g.h=H/\W+H=n from ⟨hW,hH,hn⟩)
 have bh:=Za (fun w' (h:Ext w w')=>zbC (hv.ext h) hg)
 have aS:=Za (fun x y (h1:x<g.w) (h2:y<g.h)=>zet hg h1 h2)
 have a0:=Za (zeD hg)
 rw [hW,hL] at aS
 rw [hH] at aS
 rw [hL] at a0
 clear hW hH hL hv hg hn i0 hi aN hz1 bc h5
 go_enter Tryz.func100,Tryz.ntmps100
 go_upto_region 2 with fail
 have aZ:=Za (Tb.new w (.int .i64 (W:Int)) (.int .i64 (H:Int)) (.slice (some ⟨b,off,none⟩) L c) 54)
 obtain ⟨w1,aF⟩:∃w1,(w.alloc (.cells #[.int .i64 (W:Int),.int .i64 (H:Int),.slice (some ⟨b,off,none⟩) L c] 54)).alloc (.cells #[.slice none 0 0,.slice none 0 0] 153)=w1:=⟨_,rfl⟩
 have bq:=Za (show Ext w w1 by rw [<-aF];exact ((Ze w).alloc _).alloc _)
 have aY:=Za (show Tb w1 w.heap.size (.int .i64 (W:Int)) (.int .i64 (H:Int)) (.slice (some ⟨b,off,none⟩) L c) by rw [<-aF];exact aZ.out.ext ((Ze _).alloc _))
 have aK:=Za (show w1.heap[w.heap.size+1]?=some (.cells #[.slice none 0 0,.slice none 0 0] 153 (0,0)) by
  rw [<-aF]
  have h9:=heap_alloc_new (w.alloc (.cells #[.int .i64 (W:Int),.int .i64 (H:Int),.slice (some ⟨b,off,none⟩) L c] 54)) (.cells #[.slice none 0 0,.slice none 0 0] 153)
  rw [ZP] at h9
  exact h9)
 rw [aF]
 clear aF aZ
 go_cut [4] from 15 to 19 (fun u wx=>∃O B A:Nat,u = .pointer (some ⟨O,0,none⟩)/\Hid (NoI w1 wx O B A n))
 case first =>
  go_region_law fail
  all_goals
   go_wp2_with fail
   go_meet
   first
    | (refine ⟨w1.heap.size+1,w1.heap.size,w1.heap.size+1+1,rfl,Za ⟨(zar w1 _ _ _).1,(zar w1 _ _ _).2.1,(zar w1 _ _ _).2.2.2,(zar w1 _ _ _).2.2.1,by omega,by omega⟩⟩)
    | (refine ⟨w1.heap.size+1,w1.heap.size+1+1,w1.heap.size,rfl,Za ⟨(zar w1 _ _ _).1,(zar w1 _ _ _).2.2.2,(zar w1 _ _ _).2.1,(zar w1 _ _ _).2.2.1,by omega,by omega⟩⟩)
    | (refine ⟨w1.heap.size+1+1,w1.heap.size,w1.heap.size+1,rfl,Za ⟨(zar w1 _ _ _).1,(zar w1 _ _ _).2.1,(zar w1 _ _ _).2.2.1,(zar w1 _ _ _).2.2.2,by omega,by omega⟩⟩)
    | (refine ⟨w1.heap.size+1+1,w1.heap.size+1,w1.heap.size,rfl,Za ⟨(zar w1 _ _ _).1,(zar w1 _ _ _).2.2.1,(zar w1 _ _ _).2.1,(zar w1 _ _ _).2.2.2,by omega,by omega⟩⟩)
    | (refine ⟨w1.heap.size,w1.heap.size+1,w1.heap.size+1+1,rfl,Za ⟨(zar w1 _ _ _).1,(zar w1 _ _ _).2.2.1,(zar w1 _ _ _).2.2.2,(zar w1 _ _ _).2.1,by omega,by omega⟩⟩)
    | (refine ⟨w1.heap.size,w1.heap.size+1+1,w1.heap.size+1,rfl,Za ⟨(zar w1 _ _ _).1,(zar w1 _ _ _).2.2.2,(zar w1 _ _ _).2.2.1,(zar w1 _ _ _).2.1,by omega,by omega⟩⟩)
 case rest =>
  obtain ⟨O,B,A,rfl,HI⟩:=hcut
  obtain ⟨wB,rfl⟩:∃wB:World,wB=wc:=⟨_,rfl⟩
  have a1:=Za (NoS.start HI.out)
  have br:=Za (bq.out.trans HI.out.ex)
  have aL:=Za (aY.out.ext HI.out.ex)
  have HGL:=Za aL.out.lt
  have aI:=Za (show w.heap.size<w1.heap.size from aY.out.lt)
  have ap:=Za (show O<wB.heap.size from (Zh.1 HI.out.ho).1)
  have aO:=Za (show B<wB.heap.size from (Zh.1 HI.out.hb).1)
  have aG:=Za (show A<wB.heap.size from (Zh.1 HI.out.ha).1)
  have aH:=Za (fun (wr:World) (v:Nat->Value) (xs:Nat->List Int) (h:NoS wB wr B A n v xs)=>show wr.cell? ⟨w.heap.size,0,none⟩=some (.int .i64 (W:Int))/\wr.cell? ⟨w.heap.size,1,none⟩=some (.int .i64 (H:Int))/\wr.cell? ⟨w.heap.size,2,none⟩=some (.slice (some ⟨b,off,none⟩) L c) from by
   have e:wr.heap[w.heap.size]?=wB.heap[w.heap.size]?:=h.kept _ HGL.out (by have:=HI.out.ge;have:=aI.out;omega) (by have:=HI.out.ge;have:=aI.out;omega)
   exact ⟨(World.cell?_of_block (a:=⟨w.heap.size,0,none⟩) e).trans aL.out.1.1,(World.cell?_of_block (a:=⟨w.heap.size,1,none⟩) e).trans aL.out.1.2.1,(World.cell?_of_block (a:=⟨w.heap.size,2,none⟩) e).trans aL.out.1.2.2⟩)
  have ax:=Za (fun (wr:World) (e:wr.heap[O]?=wB.heap[O]?)=>show wr.cell? ⟨O,0,none⟩=some (.slice (some ⟨B,0,none⟩) n n)/\wr.cell? ⟨O,1,none⟩=some (.slice (some ⟨A,0,none⟩) n n) from by
   have h9:=e.trans HI.out.ho
   exact ⟨by rw [cell_of_row wr O 0 _ _ (0,0) h9];rfl,by rw [cell_of_row wr O 1 _ _ (0,0) h9];rfl⟩)
  have a4:=Za (fun (wr:World) (v:Nat->Value) (xs:Nat->List Int) (h:NoS wB wr B A n v xs)=>h.below br.out (by have:=HI.out.ge;have:=aI.out;omega) (by have:=HI.out.ge;have:=aI.out;omega))
  obtain ⟨g0,g1,g2⟩:=aH.out _ _ _ a1.out
  go_wp2_with fail
  clear g0 g1 g2 bC
  go_loopw [22] (fun xx wr=>∃(x:Nat) (v:Nat->Value) (xs:Nat->List Int),xx = .int .i64 x/\x<=W/\Hid (NoS wB wr B A n v xs)/\Hid (∀a,a<n->xs (n+a)=zL (upTo g x 0 a))/\Hid (∀a,a<n->(xs a).length<=x*H)) (fun xx _=>W-(intOf xx).toNat)
  case atStart=>exact ⟨0,_,_,rfl,ZK _,a1,Za (fun a _=>by rw [zqz];rfl),Za (fun a _=>ZK _)⟩
  case round =>
   obtain ⟨x,v,xs,rfl,hx,HS,HU,ay⟩:=hrel
   by_cases hxl:x<W
   ·have q1:(x:Int)<(W:Int):=by omega
    obtain ⟨g0,g1,g2⟩:=aH.out _ _ _ HS.out
    go_wp2_with fail
    clear g0 g1 g2
    obtain ⟨wo,rfl⟩:∃wo:World,wo=wr:=⟨_,rfl⟩
    go_loopw [27] (fun yy wr=>∃(y:Nat) (v:Nat->Value) (xs:Nat->List Int),yy = .int .i64 y/\y<=H/\Hid (NoS wB wr B A n v xs)/\Hid (∀a,a<n->xs (n+a)=zL (upTo g x y a))/\Hid (∀a,a<n->(xs a).length<=x*H+y)) (fun yy _=>H-(intOf yy).toNat)
    case atStart=>exact ⟨0,v,xs,rfl,ZK _,HS,HU,ay⟩
    case round =>
     obtain ⟨y,v,xs,rfl,hy,HS,HU,ay⟩:=hrel
     by_cases hyl:y<H
     ·have q2:(y:Int)<(H:Int):=by omega
      obtain ⟨g0,g1,g2⟩:=aH.out _ _ _ HS.out
      obtain ⟨b2,o2,bA,hbl,a7⟩:=bh.out wr (a4.out _ _ _ HS.out)
      cases bA
      have ae:=a7 x y (by rw [af.out.1];exact hxl) (by rw [af.out.2.1];exact hyl)
      rw [af.out.1] at ae
      have hlt:=aS.out x y hxl hyl
      have hLB:=a0.out
      have ba:x*H+y<=4096:=by
       have:=Nat.mul_le_mul hx (Zb H)
       have h9:(x+1)*H<=64*64:=Nat.mul_le_mul (by omega) h4
       rw [Nat.add_mul,Nat.one_mul] at h9
       omega
      have bs:=Za ba
      obtain ⟨t,ht⟩:∃t,g.at x y=t:=⟨_,rfl⟩
      rw [ht] at ae
      have HT:=Za ht
      obtain ⟨m,hm⟩:∃m,y*W=m:=⟨_,rfl⟩
      have hm1:(y:Int)*(W:Int)=(m:Int):=by rw [<-hm];simp
      rw [hm] at ae hlt
      obtain ⟨p,hp⟩:∃p,m+x=p:=⟨_,rfl⟩
      have hp1:(m:Int)+(x:Int)=(p:Int):=by omega
      rw [hp] at ae hlt
      obtain ⟨s,hs⟩:∃s,W+y=s:=⟨_,rfl⟩
      have hs1:(W:Int)+(y:Int)=(s:Int):=by omega
      have aV:W+H=n:=af.out.2.2
      have i2:=Zj (m:Int) (by omega)
      have i3:=Zj (p:Int) (by omega)
      have i4:=Zj (s:Int) (by omega)
      have q3:(0:Int)<=(p:Int):=by omega
      have q4:(p:Int)<(L:Int):=by omega
      have bm:=Za hs
      have a8:s<n:=by omega
      have bb:x<n:=by omega
      clear a7 hm hp ht aV hs ba
      go_upto_region 9 with fail
      go_quiet (fail)
      have ai:=Za (HS.out.ext ((Ze wr).drewN nq))
      obtain ⟨wy,hwy⟩:∃wy,wr.drewN nq=wy:=⟨_,rfl⟩
      rw [hwy] at ai ⊢
      have aE:=ae
      have bz:wy.cell? ⟨b,off+p,none⟩=some (.bool t):=by rw [<-hwy];exact ae
      obtain ⟨g0,g1,g2⟩:=aH.out _ _ _ ai.out
      clear hwy ae aE HS
      go_upto_if 45 with fail
      go_cut [7,8] from 46 to 47 (fun u d wx=>∃up dn:Nat,u = .int .i64 (up:Int)/\d = .int .i64 (dn:Int)/\up<n/\dn<n/\Hid (∀a,upTo g x (y+1) a=if a=dn then upTo g x y a++[up] else upTo g x y a)/\Hid (wy=wx))
      case first =>
       have a5:g.w+y=s:=by rw [af.out.1];exact bm.out
       have a3:=Za a5
       clear a5
       cases t
       ·have HE:=Za (zfX (g:=g) (x:=x) (y:=y) (by rw [af.out.1];exact hxl) HT.out)
        rw [a3.out] at HE
        go_wp2_with fail
        go_meet
        exact ⟨s,x,rfl,rfl,a8,bb,HE,Za rfl⟩
       ·have HE:=Za (zg5 (g:=g) (x:=x) (y:=y) (by rw [af.out.1];exact hxl) HT.out)
        rw [a3.out] at HE
        go_wp2_with fail
        go_meet
        exact ⟨x,s,rfl,rfl,bb,a8,HE,Za rfl⟩
      case rest =>
       obtain ⟨up,dn,rfl,rfl,a9,bB,HE,aU⟩:=hcut
       obtain rfl:=aU.out
       clear bz g0 g1 g2
       have iup0:(0:Int)<=(up:Int):=by omega
       have iup1:(up:Int)<(n:Int):=by omega
       have idn0:(0:Int)<=(dn:Int):=by omega
       have idn1:(dn:Int)<(n:Int):=by omega
       go_upto_region 12 with fail
       obtain ⟨h0,h1⟩:=ax.out _ (ai.out.kept O ap.out HI.out.ne.2.2 HI.out.ne.2.1)
       have bw:O<wy.heap.size:=Zi ap.out ai.out.size
       have bv:B<wy.heap.size:=Zi aO.out ai.out.size
       have bu:A<wy.heap.size:=Zi aG.out ai.out.size
       have au:=ai.out.fam.cell (up) (by omega)
       rw [zhb (B:=B) (A:=A) (show up<n by omega)] at au
       obtain ⟨c0,f0⟩:=au
       obtain ⟨A0,C0,ao, -⟩:=zaB (ai.out.fam.row (up) (by omega))
       have aq:=Za (ai.out.fam.row (up) (by omega))
       obtain ⟨V0,am⟩:∃V,v (up)=V:=⟨_,rfl⟩
       rw [am] at ao c0 aq
       obtain ⟨l0,ah⟩:∃l,(xs (up)).length=l:=⟨_,rfl⟩
       rw [ah] at ao aq
       subst ao
       have ar:=Za am
       have aJ:=Za ah
       have aP:=Za (show l0<=100000 by rw [<-ah];have h8:=ay.out up (by omega);have h9:=bs.out;omega)
       have bn:=Za ai.out.size
       clear am ah
       go_cut [] from 48 to 59 (fun wx=>∃(v2:Nat->Value) (xs2:Nat->List Int),Hid (NoS wB wx B A n v2 xs2)/\Hid (∀a,a<n->xs2 (n+a)=zL (upTo g x y a))/\Hid (∀a,a<n->(xs2 a).length<=x*H+(y+1)))
       case first =>
        refine zdU (fun wx=>wx.cell? ⟨O,0,none⟩=some (.slice (some ⟨B,0,none⟩) n n)/\wx.cell? ⟨B,up,none⟩=some (.slice A0 l0 C0)) (by kernel_rfl) ?_
        have ac:=Za (show wy.drew.cell? ⟨O,0,none⟩=some (.slice (some ⟨B,0,none⟩) n n)/\wy.drew.cell? ⟨B,up,none⟩=some (.slice A0 l0 C0) from ⟨h0,c0⟩)
        have ag:=Za (ai.out.ext ((Ze wy).drew))
        have aC:=Za (aq.out.extH ((Ze wy).drew))
        obtain ⟨wq,hwq⟩:∃wq,wy.drew=wq:=⟨_,rfl⟩
        rw [hwq] at ac ag aC ⊢
        clear hwq
        refine zak 12 (i:=0) (v:=?v1) rfl rfl (by kernel_rfl) rfl rfl (by kernel_rfl) (by kernel_rfl) (by kernel_rfl) (fun _ _ _ h=>h) ac.out (Or.inl ⟨rfl,?hy1⟩) ?rest1
        case hy1=>(intro w9 ab;obtain ⟨s0,s1⟩:=ab;go_simp;try (with_reducible rfl))
        refine zak 12 (i:=1) (v:=?v2) rfl rfl (by kernel_rfl) rfl rfl (by kernel_rfl) (by kernel_rfl) (by kernel_rfl) (fun _ _ _ h=>h) ac.out (Or.inl ⟨rfl,?hy2⟩) ?rest2
        case hy2=>(intro w9 ab;obtain ⟨s0,s1⟩:=ab;go_simp;try (with_reducible rfl))
        refine zak 12 (i:=2) (v:=?v3) rfl rfl (by kernel_rfl) rfl rfl (by kernel_rfl) (by kernel_rfl) (by kernel_rfl) (fun _ _ _ h=>h) ac.out (Or.inl ⟨rfl,?hy3⟩) ?rest3
        case hy3=>(intro w9 ab;obtain ⟨s0,s1⟩:=ab;go_simp;try (with_reducible rfl))
        refine zak 12 (i:=3) (v:=?v4) rfl rfl (by kernel_rfl) rfl rfl (by kernel_rfl) (by kernel_rfl) (by kernel_rfl) (fun _ _ _ h=>h) ac.out (Or.inl ⟨rfl,?hy4⟩) ?rest4
        case hy4=>(intro w9 ab;obtain ⟨s0,s1⟩:=ab;go_simp;try (with_reducible rfl))
        refine zak 12 (i:=4) (v:=?v5) rfl rfl (by kernel_rfl) rfl rfl (by kernel_rfl) (by kernel_rfl) (by kernel_rfl) (fun _ _ _ h=>h) ac.out (Or.inl ⟨rfl,?hy5⟩) ?rest5
        case hy5=>(intro w9 ab;obtain ⟨s0,s1⟩:=ab;go_simp;try (with_reducible rfl))
        refine zak 12 (i:=5) (v:=?v6) rfl rfl (by kernel_rfl) rfl rfl (by kernel_rfl) (by kernel_rfl) (by kernel_rfl) (fun _ _ _ h=>h) ac.out (Or.inl ⟨rfl,?hy6⟩) ?rest6
        case hy6=>(intro w9 ab;obtain ⟨s0,s1⟩:=ab;go_simp;try (with_reducible rfl))
        refine zak 12 (i:=6) (v:=?v7) rfl rfl (by kernel_rfl) rfl rfl (by kernel_rfl) (by kernel_rfl) (by kernel_rfl) (fun _ _ _ h=>h) ac.out (Or.inl ⟨rfl,?hy7⟩) ?rest7
        case hy7=>(intro w9 ab;obtain ⟨s0,s1⟩:=ab;go_simp;try (with_reducible rfl))
        refine zak 12 (i:=7) (v:=?v8) rfl rfl (by kernel_rfl) rfl rfl (by kernel_rfl) (by kernel_rfl) (by kernel_rfl) (fun _ _ _ h=>h) ac.out (Or.inl ⟨rfl,?hy8⟩) ?rest8
        case hy8=>(intro w9 ab;obtain ⟨s0,s1⟩:=ab;go_simp;try (with_reducible rfl))
        refine zak 12 (i:=8) (v:=?v9) rfl rfl (by kernel_rfl) rfl rfl (by kernel_rfl) (by kernel_rfl) (by kernel_rfl) (fun _ _ _ h=>h) ac.out (Or.inl ⟨rfl,?hy9⟩) ?rest9
        case hy9=>(intro w9 ab;obtain ⟨s0,s1⟩:=ab;go_simp;try (with_reducible rfl))
        refine zbH (i:=9) rfl (by kernel_rfl) ?_
        intro K9 aD
        go_simp
        refine aD _ _ ⟨.inr ⟨(Zl (p:=⟨O,0,none⟩) ((Ze wq).alloc _) (Zi ap.out ag.out.size)).trans ac.out.1,(Zl (p:=⟨B,up,none⟩) ((Ze wq).alloc _) (Zi aO.out ag.out.size)).trans ac.out.2⟩,?_⟩
        clear aD K9
        refine zbH (i:=10) rfl (by kernel_rfl) ?_
        intro K10 aj
        refine zcR (P:=Tryz.prog) 51 3 (B:=wB.heap.size) (k:=l0) (L:=xs (up)) (dn:Int) (by rfl) (by rfl) Tryz.underlying51 zaJ (by rfl) (by rfl) (aC.out.extH ((Ze wq).alloc _)) (by have h9:=ag.out.size;simp;omega) (by simp [go_sem]) aP.out ?_
        intro v6 w6 aB aA
        have aW:=ag.out.mid (j:=up) (by omega) ar.out ((Ze wq).alloc _) aA.out.1
        obtain ⟨⟨m0,m1⟩,m2⟩:=aW
        rw [zhb (B:=B) (A:=A) (show up<n by omega)] at m0 m1
        obtain ⟨k0,k1⟩:=ax.out w6 (m2 O ap.out HI.out.ne.2.2 HI.out.ne.2.1)
        obtain ⟨A6,C6,rfl, -⟩:=zaB aB.out
        refine aj _ _ ⟨.inr ⟨k0,m0⟩,?_⟩
        clear aj K10
        refine zbH (i:=11) rfl (by kernel_rfl) ?_
        intro K11 ak
        go_simp
        refine ak _ _ ⟨.inr ⟨k0,m0⟩,?_⟩
        clear ak K11
        refine zbH (i:=12) rfl (by kernel_rfl) ?_
        intro K12 al
        go_simp
        refine al _ _ ⟨.inl (by show _=true;kernel_rfl),?_⟩
        clear al K12
        refine zh5 (by kernel_rfl) ?_ _
        all_goals
         have aw:=Za (ag.out.put (j:=up) (by omega) ar.out ((Ze wq).alloc _) aB.out aA.out)
         rw [zhb (B:=B) (A:=A) (show up<n by omega)] at aw
         rw [zeI] at aw
         go_wp2_with fail
         go_meet
         refine ⟨_,_,aw,Za (zrs HU.out a9),Za (zrr ay.out a9)⟩
       case rest =>
        obtain ⟨v2,xs2,ad,a2,aQ⟩:=hcut
        obtain ⟨wz,rfl⟩:∃wz:World,wz=wc:=⟨_,rfl⟩
        clear c0 f0 h0 h1
        go_upto_region 13 with fail
        obtain ⟨h0,h1⟩:=ax.out _ (ad.out.kept O ap.out HI.out.ne.2.2 HI.out.ne.2.1)
        have bw:O<wz.heap.size:=Zi ap.out ad.out.size
        have bv:B<wz.heap.size:=Zi aO.out ad.out.size
        have bu:A<wz.heap.size:=Zi aG.out ad.out.size
        have au:=ad.out.fam.cell (n+dn) (by omega)
        rw [zha] at au
        obtain ⟨c0,f0⟩:=au
        obtain ⟨A0,C0,ao, -⟩:=zaB (ad.out.fam.row (n+dn) (by omega))
        have aq:=Za (ad.out.fam.row (n+dn) (by omega))
        obtain ⟨V0,am⟩:∃V,v2 (n+dn)=V:=⟨_,rfl⟩
        rw [am] at ao c0 aq
        obtain ⟨l0,ah⟩:∃l,(xs2 (n+dn)).length=l:=⟨_,rfl⟩
        rw [ah] at ao aq
        subst ao
        have ar:=Za am
        have aJ:=Za ah
        have aP:=Za (show l0<=100000 by rw [<-ah];rw [a2.out dn (by omega),zbR];have h8:=zrP g x y dn;rw [af.out.2.1] at h8;omega)
        have bn:=Za ad.out.size
        clear am ah
        refine zdU (fun wx=>wx.cell? ⟨O,1,none⟩=some (.slice (some ⟨A,0,none⟩) n n)/\wx.cell? ⟨A,dn,none⟩=some (.slice A0 l0 C0)) (by kernel_rfl) ?_
        have ac:=Za (show wz.drew.cell? ⟨O,1,none⟩=some (.slice (some ⟨A,0,none⟩) n n)/\wz.drew.cell? ⟨A,dn,none⟩=some (.slice A0 l0 C0) from ⟨h1,c0⟩)
        have ag:=Za (ad.out.ext ((Ze wz).drew))
        have aC:=Za (aq.out.extH ((Ze wz).drew))
        obtain ⟨wq,hwq⟩:∃wq,wz.drew=wq:=⟨_,rfl⟩
        rw [hwq] at ac ag aC ⊢
        clear hwq
        refine zak 12 (i:=0) (v:=?v10) rfl rfl (by kernel_rfl) rfl rfl (by kernel_rfl) (by kernel_rfl) (by kernel_rfl) (fun _ _ _ h=>h) ac.out (Or.inl ⟨rfl,?hy10⟩) ?rest10
        case hy10=>(intro w9 ab;obtain ⟨s0,s1⟩:=ab;go_simp;try (with_reducible rfl))
        refine zak 12 (i:=1) (v:=?v11) rfl rfl (by kernel_rfl) rfl rfl (by kernel_rfl) (by kernel_rfl) (by kernel_rfl) (fun _ _ _ h=>h) ac.out (Or.inl ⟨rfl,?hy11⟩) ?rest11
        case hy11=>(intro w9 ab;obtain ⟨s0,s1⟩:=ab;go_simp;try (with_reducible rfl))
        refine zak 12 (i:=2) (v:=?v12) rfl rfl (by kernel_rfl) rfl rfl (by kernel_rfl) (by kernel_rfl) (by kernel_rfl) (fun _ _ _ h=>h) ac.out (Or.inl ⟨rfl,?hy12⟩) ?rest12
        case hy12=>(intro w9 ab;obtain ⟨s0,s1⟩:=ab;go_simp;try (with_reducible rfl))
        refine zak 12 (i:=3) (v:=?v13) rfl rfl (by kernel_rfl) rfl rfl (by kernel_rfl) (by kernel_rfl) (by kernel_rfl) (fun _ _ _ h=>h) ac.out (Or.inl ⟨rfl,?hy13⟩) ?rest13
        case hy13=>(intro w9 ab;obtain ⟨s0,s1⟩:=ab;go_simp;try (with_reducible rfl))
        refine zak 12 (i:=4) (v:=?v14) rfl rfl (by kernel_rfl) rfl rfl (by kernel_rfl) (by kernel_rfl) (by kernel_rfl) (fun _ _ _ h=>h) ac.out (Or.inl ⟨rfl,?hy14⟩) ?rest14
        case hy14=>(intro w9 ab;obtain ⟨s0,s1⟩:=ab;go_simp;try (with_reducible rfl))
        refine zak 12 (i:=5) (v:=?v15) rfl rfl (by kernel_rfl) rfl rfl (by kernel_rfl) (by kernel_rfl) (by kernel_rfl) (fun _ _ _ h=>h) ac.out (Or.inl ⟨rfl,?hy15⟩) ?rest15
        case hy15=>(intro w9 ab;obtain ⟨s0,s1⟩:=ab;go_simp;try (with_reducible rfl))
        refine zak 12 (i:=6) (v:=?v16) rfl rfl (by kernel_rfl) rfl rfl (by kernel_rfl) (by kernel_rfl) (by kernel_rfl) (fun _ _ _ h=>h) ac.out (Or.inl ⟨rfl,?hy16⟩) ?rest16
        case hy16=>(intro w9 ab;obtain ⟨s0,s1⟩:=ab;go_simp;try (with_reducible rfl))
        refine zak 12 (i:=7) (v:=?v17) rfl rfl (by kernel_rfl) rfl rfl (by kernel_rfl) (by kernel_rfl) (by kernel_rfl) (fun _ _ _ h=>h) ac.out (Or.inl ⟨rfl,?hy17⟩) ?rest17
        case hy17=>(intro w9 ab;obtain ⟨s0,s1⟩:=ab;go_simp;try (with_reducible rfl))
        refine zak 12 (i:=8) (v:=?v18) rfl rfl (by kernel_rfl) rfl rfl (by kernel_rfl) (by kernel_rfl) (by kernel_rfl) (fun _ _ _ h=>h) ac.out (Or.inl ⟨rfl,?hy18⟩) ?rest18
        case hy18=>(intro w9 ab;obtain ⟨s0,s1⟩:=ab;go_simp;try (with_reducible rfl))
        refine zbH (i:=9) rfl (by kernel_rfl) ?_
        intro K9 aD
        go_simp
        refine aD _ _ ⟨.inr ⟨(Zl (p:=⟨O,1,none⟩) ((Ze wq).alloc _) (Zi ap.out ag.out.size)).trans ac.out.1,(Zl (p:=⟨A,dn,none⟩) ((Ze wq).alloc _) (Zi aG.out ag.out.size)).trans ac.out.2⟩,?_⟩
        clear aD K9
        refine zbH (i:=10) rfl (by kernel_rfl) ?_
        intro K10 aj
        refine zcR (P:=Tryz.prog) 51 3 (B:=wB.heap.size) (k:=l0) (L:=xs2 (n+dn)) (up:Int) (by rfl) (by rfl) Tryz.underlying51 zaJ (by rfl) (by rfl) (aC.out.extH ((Ze wq).alloc _)) (by have h9:=ag.out.size;simp;omega) (by simp [go_sem]) aP.out ?_
        intro v6 w6 aB aA
        have aW:=ag.out.mid (j:=n+dn) (by omega) ar.out ((Ze wq).alloc _) aA.out.1
        obtain ⟨⟨m0,m1⟩,m2⟩:=aW
        rw [zha] at m0 m1
        obtain ⟨k0,k1⟩:=ax.out w6 (m2 O ap.out HI.out.ne.2.2 HI.out.ne.2.1)
        obtain ⟨A6,C6,rfl, -⟩:=zaB aB.out
        refine aj _ _ ⟨.inr ⟨k1,m0⟩,?_⟩
        clear aj K10
        refine zbH (i:=11) rfl (by kernel_rfl) ?_
        intro K11 ak
        go_simp
        refine ak _ _ ⟨.inr ⟨k1,m0⟩,?_⟩
        clear ak K11
        refine zbH (i:=12) rfl (by kernel_rfl) ?_
        intro K12 al
        go_simp
        refine al _ _ ⟨.inl (by show _=true;kernel_rfl),?_⟩
        clear al K12
        refine zh5 (by kernel_rfl) ?_ _
        all_goals
          have aw:=Za (ag.out.put (j:=n+dn) (by omega) ar.out ((Ze wq).alloc _) aB.out aA.out)
          rw [zha] at aw
          rw [zeI] at aw
          have bp:=Za (zrt a2.out HE.out bB)
          have aR:=Za (zrq (ys:=xs2 (n+dn)++[(up:Int)]) (dn:=dn) aQ.out)
          clear m0 m1 m2 k0 k1 aB aA
          go_wp2_with fail
          go_roundw
          case rel=>exact ⟨y+1,_,_,by go_num,by omega,aw,bp,aR⟩
          case measure=>simp [intOf];omega
     ·obtain rfl:y=H:=by omega
      have az:=Za (show ∀a,a<n->xs (n+a)=zL (upTo g (x+1) 0 a) from fun a ha=>by
       have h9:=zrQ g x a (by rw [af.out.1,af.out.2.1,af.out.2.2];exact ha)
       rw [af.out.2.1] at h9
       rw [<-h9]
       exact HU.out a ha)
      have av:=Za (show ∀a,a<n->(xs a).length<=(x+1)*y from fun a ha=>by
       rw [Nat.add_mul,Nat.one_mul]
       exact ay.out a ha)
      go_wp2_with fail
      go_roundw
      case rel=>exact ⟨x+1,v,xs,by go_num,by omega,HS,az,av⟩
      case measure=>simp [intOf];omega
   ·obtain rfl:x=W:=by omega
    have az:=Za (show ∀a,a<n->xs (n+a)=zL (upOf g a) from fun a ha=>by
     have h9:=zoO g a
     rw [af.out.1] at h9
     rw [<-h9]
     exact HU.out a ha)
    have av:=Za (show ∀a,a<n->(xs a).length<=4096 from fun a ha=>by
     have h9:=Nat.mul_le_mul h2 h4
     have:=ay.out a ha
     omega)
    obtain ⟨wc2,rfl⟩:∃wc2:World,wc2=wr:=⟨_,rfl⟩
    go_wp2_with fail
    go_loopw [75] (fun aa wr=>∃(a:Nat) (xs:Nat->List Int),aa = .int .i64 a/\a<=n/\Hid (NoS wB wr B A n v xs)/\Hid (∀a,a<n->xs (n+a)=zL (upOf g a))/\Hid (∀a,a<n->(xs a).length<=4096)) (fun aa _=>n-(intOf aa).toNat)
    case atStart=>exact ⟨0,xs,rfl,ZK _,HS,az,av⟩
    case round =>
     obtain ⟨a,xs,rfl,ha,HS,az,av⟩:=hrel
     by_cases hal:a<n
     ·have q1:(a:Int)<(n:Int):=by omega
      have q2:(0:Int)<=(a:Int):=by omega
      obtain ⟨h0,h1⟩:=ax.out _ (HS.out.kept O ap.out HI.out.ne.2.2 HI.out.ne.2.1)
      have au:=HS.out.fam.cell a (by omega)
      rw [zhb (B:=B) (A:=A) hal] at au
      obtain ⟨c0,f0⟩:=au
      have aT:=Za (ziv (by have:=av.out a hal;omega) wr (HS.out.fam.row a (by omega)))
      have aq:=Za (HS.out.fam.row a (by omega))
      obtain ⟨V0,am⟩:∃V,v a=V:=⟨_,rfl⟩
      obtain ⟨A0,C0,ao, -⟩:=zaB aq.out
      rw [am] at ao c0 aT
      obtain ⟨l0,ah⟩:∃l,(xs a).length=l:=⟨_,rfl⟩
      rw [ah] at ao aT
      subst ao
      have ar:=Za am
      have aJ:=Za ah
      clear am ah
      go_wp2_with (go_at_call 136;((with_reducible refine aT.out.mono ?_);rintro e w5 ⟨rfl,a6,l5,aX⟩;have bj:=Za (HS.out.turn (j:=a) (by omega) (by rw [ar.out];exact a6) (by rw [ar.out,aJ.out];exact aX));have bi:=Za (show l5.length=(xs a).length by rw [aJ.out];simpa using aX.1);clear a6 aX))
      have bo:=Za (show ∀i,i<n->(fun i=>if i=a then l5 else xs i) (n+i)=zL (upOf g i) from fun i hi=>by
       show (if n+i=a then _ else _)=_
       rw [if_neg (by omega)]
       exact az.out i hi)
      have bg:=Za (show ∀i,i<n->((fun i=>if i=a then l5 else xs i) i).length<=4096 from fun i hi=>by
       show (if i=a then l5 else xs i:List Int).length<=4096
       split
       ·rename_i e
        subst e
        rw [bi.out]
        exact av.out i hi
       ·exact av.out i hi)
      refine ⟨⟨a+1,_,by go_num,by omega,bj,bo,bg⟩,?_⟩
      simp [intOf]
      omega
     ·obtain rfl:a=n:=by omega
      obtain ⟨h0,h1⟩:=ax.out _ (HS.out.kept O ap.out HI.out.ne.2.2 HI.out.ne.2.1)
      have aM:wr.heap[w.heap.size+1]?=some (.cells #[.slice none 0 0,.slice none 0 0] 153 (0,0)):=by
       have hl1:w.heap.size+1<w1.heap.size:=(Zh.1 aK.out).1
       have hge:=HI.out.ge
       exact (HS.out.kept _ (Zi hl1 HI.out.ex.size) (by omega) (by omega)).trans ((HI.out.ex.block _ hl1).trans aK.out)
      have bD:wr.cell? ⟨w.heap.size+1,0,none⟩=some (.slice none 0 0):=by rw [cell_of_row wr _ 0 _ _ (0,0) aM];rfl
      have bE:wr.cell? ⟨w.heap.size+1,1,none⟩=some (.slice none 0 0):=by rw [cell_of_row wr _ 1 _ _ (0,0) aM];rfl
      have hf0:wr.frozen? ⟨w.heap.size+1,0,none⟩=false:=by simp only [World.frozen?];rw [aM];simp
      have hf1:wr.frozen? ⟨w.heap.size+1,1,none⟩=false:=by simp only [World.frozen?];rw [aM];simp
      have bk:=Za (show w.heap.size+1<wB.heap.size from Zi (Zh.1 aK.out).1 HI.out.ex.size)
      have be:=Za (show A≠w.heap.size+1 by have h8:=(Zh.1 aK.out).1;have h9:=HI.out.ge;omega)
      have bf:=Za (show A<wr.heap.size from Zi aG.out HS.out.size)
      have aU:=Za (a4.out wr v xs HS.out)
      go_wp2_with fail
      refine zp5 bD bE fun WF hWF ⟨v0,v1⟩=>?_
      refine bodyPost_ret (v := .agg #[.slice (some ⟨B,0,none⟩) a a,.slice (some ⟨A,0,none⟩) a a]) (by simp [results,Tryz.f100,go_sem,v0,v1]) rfl ⟨_,_,_,rfl,HS.out.adj az.out hWF be.out bk.out bf.out,?_⟩
      exact But.below ((But.of_ext aU.out _).trans hWF) (Zb _) (fun k e=>by cases e;exact Nat.le_succ _)
end Go.Proofs.YtbjgpbojjhldaaaGreatDoor
