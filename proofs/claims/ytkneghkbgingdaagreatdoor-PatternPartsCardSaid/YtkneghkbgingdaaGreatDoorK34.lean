/- The finder of the shortest list: small facts for list. -/
import Derived.Test.YtkneghkbgingdaaGreatDoorK33
import Derived.Test.YtkneghkbgingdaaGreatDoorK31
import Derived.Defers
import Derived.Recover
set_option maxHeartbeats 16000000
namespace Go.Proofs.YtkneghkbgingdaaGreatDoor
set_option maxRecDepth 100000
open Go.RowKit Go.ChangeShapes Go.WideShapes Go.Joins
theorem But.base {g:Nat} {w w':World} (h:But (some g) w w'):∃wk:World,wk.heap.size=w.heap.size∧Ext wk w':=by
 by_cases hg:g<w.heap.size
 ·have hg2:g<w'.heap.size:=Zt hg h.size
  refine ⟨{ w with heap:=w.heap.modify g (fun _=>w'.heap[g]) },by simp,⟨h.os,h.tape,h.output,by simpa using h.size,fun k hk=>?_⟩⟩
  have hk2:k<w.heap.size:=by simpa using hk
  show w'.heap[k]?=(w.heap.modify g (fun _=>w'.heap[g]))[k]?
  rw [Array.getElem?_modify]
  by_cases e:g=k
  ·subst e
   simp [hg,hg2]
  ·rw [if_neg e]
   exact h.block k hk2 (by intro e9;cases e9;exact e rfl)
 ·exact ⟨w,rfl,⟨h.os,h.tape,h.output,h.size,fun k hk=>h.block k hk (by intro e9;cases e9;omega)⟩⟩
theorem Least.all {l:List St} {g n c a m:Nat} {A:Option Addr} {tab tab':Nat→Nat→Chc} {w w':World} (h:Least l g n c A tab a m w w' tab') (hok:∀N,TabOk l tab N):∀N,TabOk l tab' N:=by
 intro N x y h1 h2 h3
 by_cases hy:y≤m
 ·exact h.ok x y h1 hy h3
 ·rw [h.up x y (by omega)]
  exact hok N x y h1 h2 h3
theorem TabOk.empty (l:List St) (N:Nat):TabOk l (fun _ _=>⟨0,0,0⟩) N:=fun _ _ _ _ _ => .inl rfl
end Go.Proofs.YtkneghkbgingdaaGreatDoor
/- The finder's zero value: its cells. -/
namespace Go.Proofs.YtkneghkbgingdaaGreatDoor
set_option maxRecDepth 100000
open Go.RowKit Go.ChangeShapes Go.WideShapes Go.Joins
def isZ:Value→Bool
 | .int .i64 v=>v==0
 | _=>false
def finderOk:Option Value→Bool
 | some (.agg cs)=>cs.size==10981 && (cs.toList.drop 1).all isZ
 | _=>false
theorem zit:finderOk ((Tryz.prog.info? 193).bind (·.zero))=true:=by decide +kernel
theorem zoc {v:Value} (h:isZ v=true):v = .int .i64 0:=by
 unfold isZ at h
 split at h
 ·rename_i x
  have:x=0:=by simpa using h
  rw [this]
 ·cases h
theorem zgr (w:World):∃Z:Array Value,Sem.run Tryz.prog (zeroValue 193) w = .ok (.agg Z) w∧Z.size=10981∧∀i,1≤i→i<10981→Z[i]?=some (.int .i64 0):=by
 have h:=zit
 cases hi:Tryz.prog.info? 193 with
 | none=>rw [hi] at h;cases h
 | some i0 =>
  rw [hi] at h
  cases hz:i0.zero with
  | none=>rw [ZA,hz] at h;cases h
  | some z =>
   rw [ZA,hz] at h
   cases z with
   | agg cs =>
    simp only [finderOk,Zs,beq_iff_eq,Zq] at h
    refine ⟨cs,?_,h.1,fun i h1 h2=>?_⟩
    ·simp [zeroValue,typeInfo,hi,hz,go_sem]
    ·have hlt:i<cs.size:=by omega
     rw [Array.getElem?_eq_getElem hlt]
     have hm:cs[i]∈cs.toList.drop 1:=by
      rw [List.mem_iff_getElem]
      refine ⟨i-1,by simp;omega,?_⟩
      rw [List.getElem_drop]
      simp only [Array.getElem_toList]
      congr 1
      omega
     rw [zoc (h.2 _ hm)]
   | _=>cases h
end Go.Proofs.YtkneghkbgingdaaGreatDoor
/- A finder just made: its table is empty. -/
namespace Go.Proofs.YtkneghkbgingdaaGreatDoor
set_option maxRecDepth 100000
open Go.RowKit Go.ChangeShapes Go.WideShapes Go.Joins
theorem FAt.new_ (w:World) {Z:Array Value} {t:TypeId} (A:Option Addr) (n c:Nat) (hs:Z.size=10981) (hz:∀i,1≤i→i<10981→Z[i]?=some (.int .i64 0)) :
  FAt (w.alloc (.cells (Z.setIfInBounds 0 (.slice A n c)) t)) w.heap.size n c A (fun _ _=>⟨0,0,0⟩):=by
 have h:(w.alloc (.cells (Z.setIfInBounds 0 (.slice A n c)) t)).heap[w.heap.size]?=some (.cells (Z.setIfInBounds 0 (.slice A n c)) t):=heap_alloc_new w _
 refine ⟨?_,fun o=>?_,fun a m i ha hm hi=>?_⟩
 ·rw [cell_of_row _ w.heap.size 0 _ t (0,0) h]
  simp [hs]
 ·simp [go_sem]
 ·rw [cell_of_row _ w.heap.size _ _ t (0,0) h,Array.getElem?_setIfInBounds,if_neg (by omega),hz _ (by omega) (by omega)]
  match i,hi with
  | 0,_=>rfl
  | 1,_=>rfl
  | 2,_=>rfl
end Go.Proofs.YtkneghkbgingdaaGreatDoor
/- The finder of the shortest list: list. -/
namespace Go.Proofs.YtkneghkbgingdaaGreatDoor
set_option maxRecDepth 100000
open Go.RowKit Go.ChangeShapes Go.WideShapes Go.Joins
theorem But.base2 {g:Nat} {w w':World} (h:But (some g) w w'):∃wk:World,wk.heap.size=w.heap.size∧Ext wk w'∧But (some g) w wk:=by
 by_cases hg:g<w.heap.size
 ·have hg2:g<w'.heap.size:=Zt hg h.size
  refine ⟨{ w with heap:=w.heap.modify g (fun _=>w'.heap[g]) },by simp,⟨h.os,h.tape,h.output,by simpa using h.size,fun k hk=>?_⟩,⟨rfl,rfl,rfl,by simp,fun k _ hne=>?_⟩⟩
  ·have hk2:k<w.heap.size:=by simpa using hk
   show w'.heap[k]?=(w.heap.modify g (fun _=>w'.heap[g]))[k]?
   rw [Array.getElem?_modify]
   by_cases e:g=k
   ·subst e
    simp [hg,hg2]
   ·rw [if_neg e]
    exact h.block k hk2 (by intro e9;cases e9;exact e rfl)
  ·show (w.heap.modify g (fun _=>w'.heap[g]))[k]?=w.heap[k]?
   rw [Array.getElem?_modify,if_neg (by rintro rfl;exact hne rfl)]
 ·exact ⟨w,rfl,⟨h.os,h.tape,h.output,h.size,fun k hk=>h.block k hk (by intro e9;cases e9;omega)⟩,But.refl _ _⟩
theorem FAt.far {w w' wk:World} {g n c:Nat} {A:Option Addr} {tab:Nat→Nat→Chc} (h:FAt w g n c A tab) (h1:Ext wk w) (h2:Ext wk w') (hg:g<wk.heap.size):FAt w' g n c A tab:=by
 obtain ⟨a1,a2, -⟩:=h1.facts
 obtain ⟨b1,b2, -⟩:=h2.facts
 exact ⟨(b1 _ _ hg).trans ((a1 _ _ hg).symm.trans h.hd),fun o=>(b2 _ _ hg).trans ((a2 _ _ hg).symm.trans (h.fz o)),fun a m i ha hm hi=>(b1 _ _ hg).trans ((a1 _ _ hg).symm.trans (h.tb a m i ha hm hi))⟩
theorem ziX (w:World) (B:Nat) (e:TypeId) (N k:Int) (p:Bool) (a b:Int) {A:Option Addr} {n cap:Nat} {g:Tms} (hB:B≤w.heap.size) (hk:0≤k∧k≤255) (hg:TvK w (fun b=>B≤b) A n g) :
  OwnT (w.alloc (.cells #[.int .i64 N,.int .u8 k,.bool p,.int .i64 a,.int .i64 b,.slice A n cap] e)) B e (.slice (some ⟨w.heap.size,0,none⟩) 1 1) 1 (.cons N ⟨k,p,a,b⟩ g .nil):=by
 refine ⟨rfl,[.int .i64 N,.int .u8 k,.bool p,.int .i64 a,.int .i64 b,.slice A n cap],⟨rfl,.inr ⟨w.heap.size,1,_,rfl,hB,heap_alloc_new w _,Zf _,by unfold maxLen;omega,rfl,rfl⟩⟩,A,n,cap,[],rfl,hk,?_,rfl⟩
 refine hg.keep (by simp) fun b' hlt hb=>⟨⟨hb,?_⟩,fun o=>?_⟩
 ·simp only [Value.ownBlock]
  intro e9
  cases e9
  omega
 ·exact Zm (p:=⟨b',o,none⟩) ((Zd w).alloc _) hlt
theorem OwnT.far {w w':World} {B g k:Nat} {e:TypeId} {v:Value} {t:Tms} (h:OwnT w B e v k t) (hb:But (some g) w w') (hg:g<B):OwnT w' B e v k t:=by
 obtain ⟨h1,L,h2,h3⟩:=h
 refine ⟨h1,L,World.ownsRow.kept h2 hb (.inr ?_),h3.but hb fun b _ hb=>⟨hb,?_⟩⟩
 ·intro e9
  have:=(zbF h2 g e9).1
  omega
 ·intro e9
  cases e9
  omega
theorem OwnT.low {w:World} {B B' k:Nat} {e:TypeId} {v:Value} {t:Tms} (h:OwnT w B e v k t) (hB:B'≤B):OwnT w B' e v k t:=by
 obtain ⟨h1,L,h2,h3⟩:=h
 refine ⟨h1,L,⟨h2.1,?_⟩,h3.keep (Zf _) fun b _ hb=>⟨⟨by omega,hb.2⟩,fun _=>rfl⟩⟩
 rcases h2.2 with h | ⟨g,cap,cur,e1,hb,r⟩
 ·exact .inl h
 ·exact .inr ⟨g,cap,cur,e1,by omega,r⟩
theorem OwnT.lies {w:World} {B k:Nat} {e:TypeId} {v:Value} {t:Tms} (h:OwnT w B e v k t):∃A c L,v = .slice A k c∧RwK w (fun b=>B≤b∧some b≠v.ownBlock) t L∧t.cnt=k∧(0<k→∃ad,A=some ad∧∀j u,L[j]?=some u→w.cell? (ad.add j)=some u):=by
 obtain ⟨h1,L,h2,h3⟩:=h
 have hf:0<k→∃g cap,v = .slice (some ⟨g,0,none⟩) k cap:=fun hk=>by
  obtain ⟨g,cap,hv,_,_⟩:=World.ownsRow.form h2 hk
  exact ⟨g,cap,hv⟩
 have hs:∃A c,v = .slice A k c:=by
  rcases h2.2 with ⟨e1,e2⟩ | ⟨g,cap,cur,e1,_⟩
  ·subst e2;exact ⟨none,0,e1⟩
  ·exact ⟨_,_,e1⟩
 obtain ⟨A,c,rfl⟩:=hs
 refine ⟨A,c,L,rfl,h3,h1,fun hk=>?_⟩
 obtain ⟨g,cap,hv⟩:=hf hk
 cases hv
 refine ⟨_,rfl,fun j u hu=>?_⟩
 rw [zb6,Nat.zero_add]
 have hj:j<k*6:=by rw [←h1,←h3.len];exact (ZO.1 hu).1
 rw [World.ownsRow.cellAt h2 _ hj]
 exact hu
def ListR (l:List St) (g n c:Nat) (A:Option Addr) (T:TypeId) (t:Tms) (w:World) (e:Ending) (w':World):Prop :=
 ∃v tab',e = .returned v∧FAt w' g n c A tab'∧(∀N,TabOk l tab' N)∧But (some g) w w'∧OwnT w' w.heap.size T v t.cnt t
theorem zeH {P:Program} {o:Oper} {a:Act} {K:Act→World→Prop} {Q:Exit→Act→World→Prop} {w1 w2 wx:World} {g:Nat} (T e:TypeId) (z:Value) (bytes:Nat) {s x:Operand} {v1 v2:Value} {t r:Tms}
  (ho:o.op = .call { callee := .builtin .append,args:=#[s,x],argTypes:=#[T,T] })
  (ht:P.underlying T=some (.slice e)) (hinfo:(P.info? e).map (fun i=>(i.zero,i.size,i.bytes))=some (some z,6,bytes)) (hzs:z.cells.size=6) (hby:bytes≤1000)
  (hs:a.eval s=v1) (hx:a.eval x=v2) (h1:OwnT w2 w1.heap.size e v1 t.cnt t) (h2:OwnT wx w2.heap.size e v2 r.cnt r) (b1:But (some g) w1 w2) (b2:But (some g) w2 wx) (hg:g<w1.heap.size) (hk:t.cnt+r.cnt≤1000000)
  (h:∀v' w3,OwnT w3 w1.heap.size e v' (t.cnt+r.cnt) (t.app r)→Hid (But (some g) w1 w3)→Hid (∀n c A tab,FAt wx g n c A tab→FAt w3 g n c A tab)→K (a.put o.dst v') w3):o.wp P a wx K Q:=by
 obtain ⟨wk,hsz,hext,hbk⟩:=But.base2 (b1.trans b2)
 have h1':=h1.far b2 hg
 obtain ⟨A,c,L,rfl,hL,hrc,hA⟩:=h2.lies
 have hw2:=b1.size
 have hob:∀b,w2.heap.size≤b→some b≠v1.ownBlock:=fun b hb e9=>by
  obtain ⟨_,L1,hL1,_⟩:=h1
  have:=(zbF hL1 b e9.symm).2
  omega
 rw [←hsz] at h1'
 refine zcu (w:=wk) T e z bytes ho ht hinfo hzs hby hs hx h1' hext rfl (hL.keep (Zf _) fun b _ hb=>⟨⟨by omega,hob b hb.1⟩,fun _=>rfl⟩) hA hk ?_
 intro v' w3 g1 g2
 refine h v' w3 (by rw [←hsz];exact g1) (Za ?_) (Za fun n c A tab hf=>hf.far hext g2.out (by omega))
 exact hbk.trans (But.of_ext g2.out _)
theorem zdo {P:Program} {ops:Array Oper} {E:Prop} {o:Oper} {a:Act} {K:Act→World→Prop} {Q:Exit→Act→World→Prop} {w1 w2 wx:World} {g:Nat} (T e:TypeId) (z:Value) (bytes:Nat) {s x:Operand} {v1 v2:Value} {t r:Tms}
  (hgd:o.guard=none) (ho:o.op = .call { callee := .builtin .append,args:=#[s,x],argTypes:=#[T,T] })
  (ht:P.underlying T=some (.slice e)) (hinfo:(P.info? e).map (fun i=>(i.zero,i.size,i.bytes))=some (some z,6,bytes)) (hzs:z.cells.size=6) (hby:bytes≤1000)
  (hs:a.eval s=v1) (hx:a.eval x=v2) (h1:OwnT w2 w1.heap.size e v1 t.cnt t) (h2:OwnT wx w2.heap.size e v2 r.cnt r) (b1:But (some g) w1 w2) (b2:But (some g) w2 wx) (hg:g<w1.heap.size) (hk:t.cnt+r.cnt≤1000000)
  (h:∀v' w3,OwnT w3 w1.heap.size e v' (t.cnt+r.cnt) (t.app r)→Hid (But (some g) w1 w3)→Hid (∀n c A tab,FAt wx g n c A tab→FAt w3 g n c A tab)→K (a.put o.dst v') w3) :
  if Region.wanted o (yielded ops a.tmps)=true then Oper.wp P o a wx K Q else E:=by
 have hw:Region.wanted o (yielded ops a.tmps)=true:=by simp [Region.wanted,hgd]
 rw [if_pos hw]
 exact zeH T e z bytes ho ht hinfo hzs hby hs hx h1 h2 b1 b2 hg hk h
theorem zeb:∀(M:Nat) (l:List St),l≠[]→l.length≤M→(mkT M l).cnt≤l.length:=by
 intro M l hl hM
 have h1:=(zlO M l hl hM).size
 have h2:=zba (mkT M l)
 have h3:=zj7 l.length rfl hl
 omega
end Go.Proofs.YtkneghkbgingdaaGreatDoor
/- The reader of terms: list. -/
namespace Go.Proofs.YtkneghkbgingdaaGreatDoor
set_option maxRecDepth 100000
open Go.RowKit Go.ChangeShapes Go.WideShapes Go.Joins
theorem zlq (f g d:Nat) (s:List UInt8) (WG w:World) (hgl:Glob WG) (hex:Ext WG w) (hgg:WG.heap.size≤g) (h:RdAt w g s d) (hd:d≤20) (hl:s.length≤10000) (ha:Asc s)
  (HL:∀(d':Nat) (s':List UInt8) (w':World) (di:Int),di=(d':Int)→Ext WG w'→RdAt w' g s' di→d'≤20→Asc s'→s'.length≤10000→2*s'.length+2≤f→Calls Tryz.prog 149 #[.pointer (some ⟨g,0,none⟩)] w' (ListRd g d' (rdL atoiO f d' s') w')) (hf:2*s.length+1≤f+1) :
  Calls Tryz.prog 174 #[.pointer (some ⟨g,0,none⟩)] w (TermR g d (rdT atoiO (f+1) d s) w):=by
 cases h40:hitB 40 s with
 | false=>exact zjO f g d s h40 WG w hgl hex hgg h hd hl ha HL hf
 | true =>
  cases s with
  | nil=>cases h40
  | cons y r =>
   have e:y=40:=by simpa [hitB] using h40
   subst e
   exact zlr f g d r WG w hgl hex hgg h hd hl ha HL hf
theorem zeG {P:Program} {o:Oper} {a:Act} {K:Act→World→Prop} {Q:Exit→Act→World→Prop} {W0 wc wx:World} {g:Nat} (T e:TypeId) (z:Value) (bytes:Nat) {s x:Operand} {v:Value} {k:Nat} (g0:Nat) {t u:Tms} (N:Int) (c:St) {A:Option Addr} {n cap:Nat}
  (ho:o.op = .call { callee := .builtin .append,args:=#[s,x],argTypes:=#[T,T] })
  (ht:P.underlying T=some (.slice e)) (hinfo:(P.info? e).map (fun i=>(i.zero,i.size,i.bytes))=some (some z,6,bytes)) (hzs:z.cells.size=6) (hby:bytes≤1000)
  (hs:a.eval s=v) (hx:a.eval x = .slice (some ⟨g0,0,none⟩) 1 1) (hown:OwnT wc W0.heap.size e v k t) (hb0:But (some g) W0 wc) (hb1:But (some g) wc wx) (hg:g<W0.heap.size) (hck:0≤c.k∧c.k≤255)
  (hu:TvK wx (fun b=>wc.heap.size≤b) A n u)
  (hA:∀j u,([.int .i64 N,.int .u8 c.k,.bool c.p,.int .i64 c.a,.int .i64 c.b,.slice A n cap]:List Value)[j]?=some u→wx.cell? ⟨g0,j,none⟩=some u) (hk:k+1≤1000000)
  (h:∀v' w1,OwnT w1 W0.heap.size e v' (k+1) (t.app (.cons N c u .nil))→Hid (But (some g) W0 w1)→Hid (∀s d,RdAt wx g s d→RdAt w1 g s d)→K (a.put o.dst v') w1):o.wp P a wx K Q:=by
 obtain ⟨wk,hsz,hext,hbk⟩:=But.base2 (hb0.trans hb1)
 have hob:∀b,wc.heap.size≤b→some b≠v.ownBlock:=fun b hb e9=>by
  obtain ⟨_,L1,hL1,_⟩:=hown
  have:=(zbF hL1 b e9.symm).2
  omega
 have hz:=hb0.size
 have hown2:=hown.far hb1 hg
 rw [←hsz] at hown2
 refine zcQ (w:=wk) T e z bytes g0 N c ho ht hinfo hzs hby hs hx hown2 hext hck (hu.mono fun b _ hb=>⟨by omega,hob b hb⟩) hA hk ?_
 intro v' w1 g1 g2
 refine h v' w1 (by rw [←hsz];exact g1) (Za (hbk.trans (But.of_ext g2.out _))) (Za fun s d hr=>?_)
 unfold RdAt
 rw [g2.out.block g (by omega),←hext.block g (by omega)]
 exact hr
theorem zcJ {P:Program} {ops:Array Oper} {rest:List Oper} {o:Oper} {a:Act} {Q:Exit→Act→World→Prop} {W0 wc wx:World} {g:Nat} (T e:TypeId) (z:Value) (bytes:Nat) {s x:Operand} {v:Value} {k:Nat} (g0:Nat) {t u:Tms} (N:Int) (c:St) {A:Option Addr} {n cap:Nat}
  (hgd:o.guard=none) (ho:o.op = .call { callee := .builtin .append,args:=#[s,x],argTypes:=#[T,T] })
  (ht:P.underlying T=some (.slice e)) (hinfo:(P.info? e).map (fun i=>(i.zero,i.size,i.bytes))=some (some z,6,bytes)) (hzs:z.cells.size=6) (hby:bytes≤1000)
  (hs:a.eval s=v) (hx:a.eval x = .slice (some ⟨g0,0,none⟩) 1 1) (hown:OwnT wc W0.heap.size e v k t) (hb0:But (some g) W0 wc) (hb1:But (some g) wc wx) (hg:g<W0.heap.size) (hck:0≤c.k∧c.k≤255)
  (hu:TvK wx (fun b=>wc.heap.size≤b) A n u)
  (hA:∀j u,([.int .i64 N,.int .u8 c.k,.bool c.p,.int .i64 c.a,.int .i64 c.b,.slice A n cap]:List Value)[j]?=some u→wx.cell? ⟨g0,j,none⟩=some u) (hk:k+1≤1000000)
  (h:∀v' w1,OwnT w1 W0.heap.size e v' (k+1) (t.app (.cons N c u .nil))→Hid (But (some g) W0 w1)→Hid (∀s d,RdAt wx g s d→RdAt w1 g s d)→wpList P ops Q rest (a.put o.dst v') w1):wpList P ops Q (o::rest) a wx :=
 wpList_plain hgd fun _ hK=>zeG T e z bytes g0 N c ho ht hinfo hzs hby hs hx hown hb0 hb1 hg hck hu hA hk fun v' w' h2 h3 h4=>hK _ _ (h v' w' h2 h3 h4)
def contR (f d:Nat) (done:Tms) (s:List UInt8):Option (Tms×List UInt8):=if hitB 32 s=true then (rdL atoiO f d (hitR 32 s)).map (fun y=>(done.app y.1,y.2)) else some (done,s)
theorem zii {f d:Nat} {done:Tms} {s:List UInt8} (h:hitB 32 s=true):contR (f+1) d done s=(rdT atoiO f d (hitR 32 s)).bind fun x=>contR f d (done.app (.cons x.1.1 x.1.2.1 x.1.2.2 .nil)) x.2:=by
 rw [contR,if_pos h,zgW]
 cases rdT atoiO f d (hitR 32 s) with
 | none=>rfl
 | some x =>
  rw [ZA,ZA,contR]
  split
  ·rw [Option.map_map]
   congr 1
   funext y
   simp only [Function.comp]
   rw [zeL]
   rfl
  ·rfl
def rdLen (w:World) (g:Nat):Nat:=match w.cell? ⟨g,0,none⟩ with
 | some (.string s)=>s.size
 | _=>0
theorem zgX {w:World} {g:Nat} {s:List UInt8} {d:Int} (h:RdAt w g s d):rdLen w g=s.length:=by
 rw [rdLen,h.facts.1]
 simp [ByteArray.size]
theorem ListRd.no {g d:Nat} {R:Option (Tms×List UInt8)} {w w':World} (h:R=none) (hb:But (some g) w w'):ListRd g d R w (PanE g) w':=⟨hb,fun _=>rfl,fun t r e=>by rw [h] at e;cases e⟩
theorem ListRd.yes {g d:Nat} {R:Option (Tms×List UInt8)} {t:Tms} {r:List UInt8} {v:Value} {w w':World} (h:R=some (t,r)) (hb:But (some g) w w') (h1:RdAt w' g r d) (h2:OwnT w' w.heap.size 134 v t.cnt t):ListRd g d R w (.returned v) w' :=
 ⟨hb,fun e=>(by rw [h] at e;cases e),fun t' r' e=>by rw [h] at e;cases e;exact ⟨v,rfl,h1,h2⟩⟩
theorem zms:∀(f g d:Nat) (s:List UInt8) (WG w:World) (di:Int),di=(d:Int)→Glob WG→Ext WG w→WG.heap.size≤g→RdAt w g s di→d≤20→Asc s→s.length≤10000→2*s.length+2≤f →
  Calls Tryz.prog 149 #[.pointer (some ⟨g,0,none⟩)] w (ListRd g d (rdL atoiO f d s) w):=by
 intro f
 induction f using Nat.strongRecOn with
 | ind f ih =>
  intro g d s WG w di hdi hgl hex hgg hr hd ha hl hf
  subst hdi
  obtain ⟨f,rfl⟩:∃f',f=f'+2:=⟨f-2,by omega⟩
  have HT:=Za (fun (k:Nat) (hk:k<f+2) (s':List UInt8) (w':World) (hx:Ext WG w') (hr':RdAt w' g s' d) (ha':Asc s') (hl':s'.length≤10000) (hf':2*s'.length+1≤k+1)=>zlq k g d s' WG w' hgl hx hgg hr' hd hl' ha' (fun d' s'' w'' di' e' hx' hr'' hd' ha'' hl'' hf''=>ih k hk g d' s'' WG w'' di' e' hgl hx' hgg hr'' hd' ha'' hl'' hf'') hf')
  have HR:=Za hr
  have HA:=Za ha
  have HE:=Za hex
  have hgw:=hr.lt
  have HC:=Za (show rdL atoiO (f+2) d s=(rdT atoiO (f+1) d s).bind fun x=>contR (f+1) d (.cons x.1.1 x.1.2.1 x.1.2.2 .nil) x.2 from zgW atoiO (f+1) d s)
  clear ih hr ha hex hgl
  have hsf:=(zjf atoiO (f+1)).1 d s
  obtain ⟨zt,hzt,hzs⟩:=zfP
  have HZT:=Za hzt
  have HZS:=Za hzs
  clear hzt hzs
  cases hq:rdT atoiO (f+1) d s with
  | none =>
   have HRN:=Za (show rdL atoiO (f+2) d s=none by rw [HC.out,hq];rfl)
   have HQ:=Za hq
   clear hq hsf
   go_enter Tryz.func149,Tryz.ntmps149
   go_wp2_with (first
    | (go_at_call 174;((with_reducible refine (HT.out f (by omega) s _ (HE.out.trans zx) (HR.out.ext zx) HA.out hl (by omega)).mono ?_);rintro e w1 ⟨hb,hn, -⟩;have h9:=hn HQ.out;unfold PanE at h9;subst h9;have HB:=Za hb;clear hb hn)))
   exact ⟨rfl,ListRd.no HRN.out HB.out⟩
  | some x =>
   obtain ⟨⟨n,c,t⟩,r⟩:=x
   have hrs:=hsf _ hq
   simp only at hrs
   have HRS:=Za hrs
   have HQ:=Za hq
   have HCC:=Za (show rdL atoiO (f+2) d s=contR (f+1) d (.cons n c t .nil) r by rw [HC.out,hq];rfl)
   have hrl:=hrs.length_le
   clear hq hsf hrs
   go_enter Tryz.func149,Tryz.ntmps149
   go_wp2_with (first
    | (go_at_call 174;((with_reducible refine (HT.out f (by omega) s _ (HE.out.trans zx) (HR.out.ext zx) HA.out hl (by omega)).mono ?_);rintro e w1 ⟨hb, -,hy⟩;obtain ⟨A1,c1,rfl,hr1,ht1,hk1⟩:=hy n c t r HQ.out;have HB:=Za hb;have HR1:=Za hr1;have HT1:=Za ht1;have HK1:=Za hk1;clear hb hy hr1 ht1 hk1)))
   go_loopw [3] (fun u wr=>∃(V:Value) (k:Nat) (done:Tms) (cur:List UInt8),V=u∧k<f+2∧2*cur.length≤k∧done.cnt+cur.length≤s.length+1∧cur.length≤10000 ∧
    Hid (cur <:+ s∧OwnT wr w.heap.size 134 V done.cnt done∧RdAt wr g cur d∧But (some g) w wr∧rdL atoiO (f+2) d s=contR k d done cur)) (fun _ wr=>rdLen wr g)
   case atStart =>
    have h1:=HT1.out
    refine ⟨_,f+1,.cons n c t .nil,r,rfl,by omega,by omega,by simp only [Tms.cnt];omega,by omega,Za ⟨HRS.out,?_,HR1.out.ext ((Zd _).alloc _),HB.out.trans (But.of_ext ((Zd _).alloc _) _),HCC.out⟩⟩
    obtain ⟨ck,cp,ca,cb⟩:=c
    exact ziX w1 w.heap.size 134 n ck cp ca cb HB.out.size HK1.out h1
   case round =>
    clear HB HR1 HT1 HK1
    obtain ⟨V,k,done,cur,rfl,hk,h2k,hcn,hcl,HH⟩:=hrel
    obtain ⟨wa,rfl⟩:∃wa:World,wa=wr:=⟨_,rfl⟩
    have HE2:=Za (Ext.but HE.out HH.out.2.2.2.1 hgg)
    obtain ⟨q,hq2⟩:∃q,hitR 32 cur=q:=⟨_,rfl⟩
    have R32:=Za hq2
    have HRD:=Za HH.out.2.2.1
    cases h32:hitB 32 cur with
    | false =>
     have K32:=Za h32
     have HRN:=Za (show rdL atoiO (f+2) d s=some (done,cur) by rw [HH.out.2.2.2.2,contR,if_neg (by rw [h32];simp)])
     obtain rfl:q=cur:=by rw [←hq2];exact zgP h32
     clear h32 hq2
     go_wp2_with (first
      | (go_at_call 175;((with_reducible refine (zgi g _ _ _ (HRD.out.ext zx) (by omega)).mono ?_);rintro e w1 ⟨rfl,hr,hb⟩;rw [K32.out];rw [R32.out] at hr;have HR2:=Za hr;have HB2:=Za hb;clear hr hb)))
     go_ret
     exact ListRd.yes HRN.out (HH.out.2.2.2.1.trans HB2.out) HR2.out (HH.out.2.1.far HB2.out hgw)
    | true =>
     have K32:=Za h32
     have hql:q.length+1=cur.length:=by
      rw [←hq2]
      cases cur with
      | nil=>cases h32
      | cons y r =>
       have e:(y==32)=true:=h32
       rw [hitR,if_pos e]
       rfl
     obtain ⟨k,rfl⟩:∃k',k=k'+2:=⟨k-2,by omega⟩
     have hcs:=zii (f:=k+1) (d:=d) (done:=done) (s:=cur) h32
     rw [hq2] at hcs
     have HCS:=Za (HH.out.2.2.2.2.trans hcs)
     have hsq:q <:+ s:=(zaI hq2).trans HH.out.1
     have HSQ:=Za hsq
     have hsf2:=(zjf atoiO (k+1)).1 d q
     have hml:=zgX HRD.out
     have HML:=Za hml
     clear h32 hq2 hcs hsq hml
     cases hq3:rdT atoiO (k+1) d q with
     | none =>
      have HRN:=Za (show rdL atoiO (f+2) d s=none by rw [HCS.out,hq3];rfl)
      have HQ3:=Za hq3
      clear hq3 hsf2
      go_wp2_with (first
       | (go_at_call 175;((with_reducible refine (zgi g _ _ _ (HRD.out.ext zx) (by omega)).mono ?_);rintro e w1 ⟨rfl,hr,hb⟩;rw [K32.out];rw [R32.out] at hr;have HR2:=Za hr;have HB2:=Za hb;clear hr hb))
       | (go_at_call 174;((with_reducible refine (HT.out k (by omega) q _ (Ext.but HE2.out HB2.out hgg) HR2.out (HA.out.suf HSQ.out) (by omega) (by omega)).mono ?_);rintro e w2 ⟨hb,hn, -⟩;have h9:=hn HQ3.out;unfold PanE at h9;subst h9;have HB3:=Za hb;clear hb hn)))
      exact ⟨rfl,ListRd.no HRN.out ((HH.out.2.2.2.1.trans HB2.out).trans HB3.out)⟩
     | some x3 =>
      obtain ⟨⟨n3,c3,t3⟩,r3⟩:=x3
      have hr3:=hsf2 _ hq3
      simp only at hr3
      have hl3:=hr3.length_le
      have HR3:=Za (hr3.trans HSQ.out)
      have HQ3:=Za hq3
      have HCC3:=Za (show rdL atoiO (f+2) d s=contR (k+1) d (done.app (.cons n3 c3 t3 .nil)) r3 by rw [HCS.out,hq3];rfl)
      clear hq3 hsf2 hr3
      obtain ⟨ck,cp,ca,cb⟩:=c3
      go_wp2_with (first
       | (go_at_call 175;((with_reducible refine (zgi g _ _ _ (HRD.out.ext zx) (by omega)).mono ?_);rintro e w1 ⟨rfl,hr,hb⟩;rw [K32.out];rw [R32.out] at hr;have HR2:=Za hr;have HB2:=Za hb;clear hr hb))
       | (go_at_call 174;((with_reducible refine (HT.out k (by omega) q _ (Ext.but HE2.out HB2.out hgg) HR2.out (HA.out.suf HSQ.out) (by omega) (by omega)).mono ?_);rintro e w2 ⟨hb, -,hy⟩;obtain ⟨A3,p3,rfl,hrd3,htv3,hkk3⟩:=hy _ _ _ _ HQ3.out;have HB3:=Za hb;have HRD3:=Za hrd3;have HTV3:=Za htv3;have HKK3:=Za hkk3;clear hb hy hrd3 htv3 hkk3))
       | (at_builtin;(refine zcJ (W0:=w) (wc:=w1) (g:=g) 91 134 zt 56 w2.heap.size n3 ⟨ck,cp,ca,cb⟩ (t:=done) (k:=done.cnt) (u:=t3) (A:=A3) (n:=t3.cnt) (cap:=p3) (by rfl) (by rfl) Tryz.underlying91 HZT.out HZS.out (by omega) (by rfl) (by rfl) (HH.out.2.1.far HB2.out hgw) (HH.out.2.2.2.1.trans HB2.out) (HB3.out.trans (But.of_ext zx _)) hgw HKK3.out (HTV3.out.ext zx) (zjR _ _ _ _ _ _ _ _) (by omega) ?_;intro v' w4 hown4 hbut4 hkeep4)))
      have HRD5:=Za (hkeep4.out _ _ (HRD3.out.ext ((Zd _).alloc _)))
      go_roundw
      case rel =>
       have e9:(done.app (Tms.cons n3 ⟨ck,cp,ca,cb⟩ t3 .nil)).cnt=done.cnt+1:=zfD _ _
       exact ⟨v',k+1,done.app (.cons n3 ⟨ck,cp,ca,cb⟩ t3 .nil),r3,rfl,by omega,by omega,by omega,by omega,Za ⟨HR3.out,by rw [e9];exact hown4,HRD5.out,hbut4.out,HCC3.out⟩⟩
      case measure=>rw [HML.out,zgX HRD5.out];omega
end Go.Proofs.YtkneghkbgingdaaGreatDoor
/- The reader of terms: read and Parse. -/
namespace Go.Proofs.YtkneghkbgingdaaGreatDoor
set_option maxRecDepth 100000
open Go.RowKit Go.ChangeShapes Go.WideShapes Go.Joins
theorem zmQ:(Tryz.prog.info? 204).map (·.comparable)=some true:=by kernel_rfl
theorem zis (d g:Nat) (w:World):(Op.equalIn (d+1) 204 (.pointer (some ⟨g,0,none⟩)) (.pointer (some ⟨g,0,none⟩))).run Tryz.prog w = .ok true w:=by
 rw [Op.equalIn]
 simp [go_sem,Tryz.sizeOf206,sameAddr]
theorem zko (d g:Nat) (w:World):(Op.equalIn (d+1+1) 20 (.iface 204 (.pointer (some ⟨g,0,none⟩))) (.iface 204 (.pointer (some ⟨g,0,none⟩)))).run Tryz.prog w = .ok true w:=by
 obtain ⟨i,hi,hc⟩:=ZF.1 zmQ
 have h1:=zis d g w
 rw [Op.equalIn]
 simp [go_sem,typeInfo,hi,hc,h1]
theorem zgc (g:Nat) (w:World):(binOp .neq 20 (.iface 204 (.pointer (some ⟨g,0,none⟩))) (.iface 204 (.pointer (some ⟨g,0,none⟩)))).run Tryz.prog w = .ok (.bool false) w:=by
 have h1:=zko 9998 g w
 simp only [binOp,Op.equal]
 rw [show Op.maxDepth=9998+1+1 from rfl]
 simp [go_sem,h1]
theorem zc7 (p:Addr) (g:Nat) (older:List PanicEntry) (w:World) (hc:w.cell? p=some (.pointer (some ⟨g,0,none⟩))) :
  CallsD Tryz.prog 148 #[.pointer (some p)] (.panicking ({ v := .iface 204 (.pointer (some ⟨g,0,none⟩)),recovered:=false }::older)) w fun e u' w' =>
   e = .returned (.tuple #[])∧u' = .panicking ({ v := .iface 204 (.pointer (some ⟨g,0,none⟩)),recovered:=true }::older)∧∃q,w'=w.drewN q:=by
 refine callsD_of_wpS Tryz.func148 rfl fun c₀ cs hu=>?_
 simp only [Tryz.ntmps148,List.size_toArray,Zk,List.length_nil,Nat.reduceAdd,Nat.reduceSub,Array.replicate_succ,Array.replicate_zero,List.push_toArray,List.append_toArray,List.nil_append,ZU]
 apply wpS_seq
 apply wpS_region
 simp [wpOpsS,go_sem,recoverD,hu,Exit.thenS]
 refine wpS_of_wp ?_
 go_wp2_with fail
 rw [zgc]
 go_wp2_with fail
 cases c₀
 simp_all [bodyPostS,results,Tryz.results148]
 exact ⟨0,rfl⟩
theorem zdy (p:Addr) (w:World) :
  CallsD Tryz.prog 148 #[.pointer (some p)] .returning w fun e u' w'=>e = .returned (.tuple #[])∧u' = .returning∧∃q,w'=w.drewN q:=by
 refine callsD_of_wpS Tryz.func148 rfl fun c₀ cs hu=>?_
 simp only [Tryz.ntmps148,List.size_toArray,Zk,List.length_nil,Nat.reduceAdd,Nat.reduceSub,Array.replicate_succ,Array.replicate_zero,List.push_toArray,List.append_toArray,List.nil_append,ZU]
 apply wpS_seq
 apply wpS_region
 simp [wpOpsS,go_sem,recoverD,hu,Exit.thenS]
 refine wpS_of_wp ?_
 go_wp2_with fail
 cases c₀
 simp_all [bodyPostS,results,Tryz.results148]
 exact ⟨0,rfl⟩
def ReadTR (s:List UInt8) (w:World) (e:Ending) (w':World):Prop:=∃(v:Value) (b:Bool),e = .returned (.tuple #[v,.bool b])∧Ext w w'∧(b=true→∃t,readT atoiO s=some t∧OwnT w' w.heap.size 134 v t.cnt t)∧(b=false→readT atoiO s=none)
theorem ReadTR.no {s:List UInt8} {v:Value} {w w':World} (h:readT atoiO s=none) (hb:Ext w w'):ReadTR s w (.returned (.tuple #[v,.bool false])) w':=⟨v,false,rfl,hb,fun e=>(by cases e),fun _=>h⟩
theorem ReadTR.yes {s:List UInt8} {v:Value} {t:Tms} {w w':World} (h:readT atoiO s=some t) (hb:Ext w w') (ho:OwnT w' w.heap.size 134 v t.cnt t):ReadTR s w (.returned (.tuple #[v,.bool true])) w':=⟨v,true,rfl,hb,fun _=>⟨t,h,ho⟩,fun e=>by cases e⟩
theorem zje (w:World) (s:List UInt8):RdAt (w.alloc (.cells #[.string ⟨s.toArray⟩,.int .i64 0] 206)) w.heap.size s 0:=heap_alloc_new w _
theorem zmV (s:List UInt8) (hl:s.length≤10000) (ha:Asc s) (w:World) (hg:Glob w):Calls Tryz.prog 115 #[.string ⟨s.toArray⟩] w (ReadTR s w):=by
 have hmf:∀(fn:Fn) (first cap:Array Value) (w:World),(Instr.makeFunc fn first cap).run Tryz.prog w = .ok (.func fn first cap) w:=fun _ _ _ _=>rfl
 by_cases h0:s=[]
 ·subst h0
  go_enter_defers Tryz.func115,Tryz.ntmps115
  go_wp2_with fail
  simp [bodyPostD,Leaves,results,Tryz.results115,go_sem]
  exact ReadTR.yes (t := .nil) (by rfl) (Zd _) (OwnT.nil _ _ _)
 have hb0:(s==[])=false:=by simpa using h0
 have HRT:=Za (show readT atoiO s=match rdL atoiO (2*s.length+2) 0 s with
  | some (t,[])=>some t
  | _=>none from if_neg h0)
 have HA:=Za ha
 have HG:=Za hg
 clear h0 ha hg
 have HL:=Za (fun (g:Nat) (WG w':World) (hgl:Glob WG) (hex:Ext WG w') (hgg:WG.heap.size≤g) (hr:RdAt w' g s 0)=>zms (2*s.length+2) g 0 s WG w' 0 (by rfl) hgl hex hgg hr (by omega) HA.out hl (Zf _))
 cases hq:rdL atoiO (2*s.length+2) 0 s with
 | none =>
  have HQ:=Za hq
  have HN:=Za (show readT atoiO s=none by rw [HRT.out,hq])
  clear hq
  go_enter_defers Tryz.func115,Tryz.ntmps115
  go_wp2_with (first
   | (go_at_call 149;((with_reducible refine (HL.out w.heap.size w _ HG.out zx (Zf _) ((zje w s).ext zx)).mono ?_);rintro e w1 ⟨hb,hn, -⟩;have h9:=hn HQ.out;unfold PanE at h9;subst h9;have HB:=Za hb;clear hb hn)))
  have hc1:=(But.cell (p:=⟨w.heap.size+1,0,none⟩) HB.out (by simp) (by simp)).trans (show _=some (.pointer (some ⟨w.heap.size,0,none⟩)) by simp [go_sem])
  refine leaves_cons (f:=148) (args:=#[.pointer (some ⟨w.heap.size+1,0,none⟩)]) (by simp) (by simp [go_sem]) ?_
  refine (zc7 ⟨w.heap.size+1,0,none⟩ w.heap.size [] _ hc1).mono ?_
  rintro e u' w'' ⟨rfl,rfl,q,rfl⟩
  simp [Leaves,settle,results,Tryz.results115,go_sem]
  exact ReadTR.no HN.out (Ext.drewN (Ext.but zx HB.out (Zf _)) q)
 | some x =>
  obtain ⟨t,r⟩:=x
  have HQ:=Za hq
  have HN:=Za (show (r=[]→readT atoiO s=some t)∧(¬r=[]→readT atoiO s=none) by
   rw [HRT.out,hq]
   refine ⟨fun h=>by subst h;rfl,fun h=>?_⟩
   split
   ·rename_i e
    cases e
    exact absurd rfl h
   ·rfl)
  clear hq
  by_cases hr0:r=[]
  ·have HN1:=Za (HN.out.1 hr0)
   subst hr0
   go_enter_defers Tryz.func115,Tryz.ntmps115
   go_wp2_with (first
    | (go_at_call 149;((with_reducible refine (HL.out w.heap.size w _ HG.out zx (Zf _) ((zje w s).ext zx)).mono ?_);rintro e w1 ⟨hb, -,hy⟩;obtain ⟨v,rfl,hr1,ho1⟩:=hy t [] HQ.out;have HB:=Za hb;have HO:=Za ho1;obtain ⟨x0,x1,x2,x3,x4⟩:=hr1.facts;have hc1:=(But.cell (p:=⟨w.heap.size+1,0,none⟩) hb (by simp) (by simp)).trans (show _=some (.pointer (some ⟨w.heap.size,0,none⟩)) by simp [go_sem]);clear hb hy hr1 ho1)))
   go_quiet (fail)
   go_wp2
   refine leaves_cons (f:=148) (args:=#[.pointer (some ⟨w.heap.size+1,0,none⟩)]) (by simp) (by simp [go_sem]) ?_
   refine (zdy ⟨w.heap.size+1,0,none⟩ _).mono ?_
   rintro e u' w'' ⟨rfl,rfl,q,rfl⟩
   simp [Leaves,settle,results,Tryz.results115,go_sem]
   have hX:=Ext.but (show Ext w ((w.alloc (.cells #[.string ⟨s.toArray⟩,.int .i64 0] 206)).alloc (.cells #[.pointer (some ⟨w.heap.size,0,none⟩)] 204)) from zx) HB.out (Zf _)
   exact ReadTR.yes HN1.out (Ext.drewN hX _) ((HO.out.low (by first | (simp;done) | (simp <;> omega))).ext ((Zd _).drewN _))
  ·have hr1:(r==[])=false:=by simpa using hr0
   have HN1:=Za (HN.out.2 hr0)
   go_enter_defers Tryz.func115,Tryz.ntmps115
   go_wp2_with (first
    | (go_at_call 149;((with_reducible refine (HL.out w.heap.size w _ HG.out zx (Zf _) ((zje w s).ext zx)).mono ?_);rintro e w1 ⟨hb, -,hy⟩;obtain ⟨v,rfl,hr1,ho1⟩:=hy t r HQ.out;have HB:=Za hb;have HO:=Za ho1;obtain ⟨x0,x1,x2,x3,x4⟩:=hr1.facts;have hc1:=(But.cell (p:=⟨w.heap.size+1,0,none⟩) hb (by simp) (by simp)).trans (show _=some (.pointer (some ⟨w.heap.size,0,none⟩)) by simp [go_sem]);clear hb hy hr1 ho1)))
   go_quiet (fail)
   go_wp2
   refine leaves_cons (f:=148) (args:=#[.pointer (some ⟨w.heap.size+1,0,none⟩)]) (by simp) (by simp [go_sem]) ?_
   refine (zdy ⟨w.heap.size+1,0,none⟩ _).mono ?_
   rintro e u' w'' ⟨rfl,rfl,q,rfl⟩
   simp [Leaves,settle,results,Tryz.results115,go_sem]
   have hX:=Ext.but (show Ext w ((w.alloc (.cells #[.string ⟨s.toArray⟩,.int .i64 0] 206)).alloc (.cells #[.pointer (some ⟨w.heap.size,0,none⟩)] 204)) from zx) HB.out (Zf _)
   exact ReadTR.no HN1.out (Ext.drewN hX _)
end Go.Proofs.YtkneghkbgingdaaGreatDoor
/- Parse of terms. -/
namespace Go.Proofs.YtkneghkbgingdaaGreatDoor
set_option maxRecDepth 100000
open Go.RowKit Go.ChangeShapes Go.WideShapes Go.Joins
theorem zjU {s:List UInt8} (h:(untilS s).1≠[]):(untilS s).2.length+1≤s.length:=by
 have h1:=congrArg List.length (zbp s)
 rw [Zh] at h1
 have h2:=ZW.2 h
 omega
theorem zkV {s:List UInt8} {c:St} (h:parseL s=some [c]):s≠[]:=by
 obtain ⟨_,h1,h2⟩:=zci.1 h
 have h3:=(za6 h1).2.1
 have h4:okSt c=true:=by simpa [allB] using h3
 rw [←h2]
 exact (zcw h4).2.2
theorem zlT {at_:List UInt8→Option Int} {c:St} {g:Tms} {s:List UInt8} {n:Int} {c':St} {g':Tms} {r:List UInt8} (h:rdN at_ c g s=some ((n,c',g'),r)):g'=g∧r.length≤s.length:=by
 refine ⟨?_,(zf4 h).length_le⟩
 unfold rdN at h
 split at h
 ·split at h
  ·cases h
  ·cases h;rfl
 ·cases h;rfl
theorem zmR (at_:List UInt8→Option Int):∀f,(∀d s n c g r,rdT at_ f d s=some ((n,c,g),r)→1+g.size+r.length≤s.length)∧(∀d s t r,rdL at_ f d s=some (t,r)→t.size+r.length≤s.length):=by
 intro f
 induction f with
 | zero=>exact ⟨fun d s n c g r h=>(by rw [rdT] at h;cases h),fun d s t r h=>(by rw [rdL] at h;cases h)⟩
 | succ f ih =>
  refine ⟨fun d s n c g r h=>?_,fun d s t r h=>?_⟩
  ·unfold rdT at h
   split at h
   ·rename_i s1
    split at h
    ·cases h
    ·split at h
     ·rename_i g0 s2 h2
      have h3:=ih.2 _ _ _ _ h2
      obtain ⟨rfl,h4⟩:=zlT h
      simp only [Zk] at h3 ⊢
      omega
     ·cases h
   ·split at h
    ·rename_i c0 h2
     obtain ⟨rfl,h4⟩:=zlT h
     have h5:=zjU (zkV h2)
     simp only [Tms.size]
     omega
    ·cases h
  ·rw [rdL] at h
   split at h
   ·cases h
   ·rename_i n c g s2 h2
    have h3:=ih.1 _ _ _ _ _ _ h2
    obtain ⟨y,hy,e⟩:=ZF.1 h
    cases e
    have h4:=ih.2 _ _ _ _ hy
    simp only [Zk] at h3
    simp only [Tms.size]
    omega
   ·rename_i n c g s1 hne h2
    cases h
    have h3:=ih.1 _ _ _ _ _ _ h2
    simp only [Tms.size]
    omega
theorem zjj {at_:List UInt8→Option Int} {s:List UInt8} {t:Tms} (h:readT at_ s=some t):t.size≤s.length:=by
 unfold readT at h
 split at h
 ·cases h;simp [Tms.size]
 ·split at h
  ·rename_i t' h2
   cases h
   have:=(zmR at_ _).2 _ _ _ _ h2
   omega
  ·cases h
theorem ziZ {w:World} {B k:Nat} {e:TypeId} {A:Option Addr} {c:Nat} {t:Tms} (h:OwnT w B e (.slice A k c) k t) (hk:k≤1000000):Tv w A k t:=by
 obtain ⟨A',c',e1,h1⟩:=zbG h hk
 cases e1
 exact h1.tv
def PTR (s:List UInt8) (w:World) (e:Ending) (w':World):Prop:=∃(v:Value) (x:Int),e = .returned (.tuple #[v,.int .i64 x])∧Ext w w' ∧
 ((parseT atoiO s=none∧v = .slice none 0 0∧x=12)∨∃t,parseT atoiO s=some t∧x=0∧OwnT w' w.heap.size 134 v t.cnt t)
theorem PTR.no {s:List UInt8} {w w':World} (h:parseT atoiO s=none) (hb:Ext w w'):PTR s w (.returned (.tuple #[.slice none 0 0,.int .i64 12])) w':=⟨_,_,rfl,hb,.inl ⟨h,rfl,rfl⟩⟩
theorem PTR.yes {s:List UInt8} {v:Value} {t:Tms} {w w':World} (h:parseT atoiO s=some t) (hb:Ext w w') (ho:OwnT w' w.heap.size 134 v t.cnt t):PTR s w (.returned (.tuple #[v,.int .i64 0])) w':=⟨_,_,rfl,hb,.inr ⟨t,h,rfl,ho⟩⟩
theorem zkW (s:List UInt8) (hl0:s.length≤1000000) (ha:Asc s) (w:World) (hg:Glob w):Calls Tryz.prog 80 #[.string ⟨s.toArray⟩] w (PTR s w):=by
 by_cases h3:3000<s.length
 ·have hN:=Za (show parseT atoiO s=none by rw [parseT,if_pos h3])
  have q1:(3000:Int)<(s.length:Int):=by omega
  clear ha hg
  go_enter Tryz.func80,Tryz.ntmps80
  go_wp2_with fail
  go_ret2
  exact PTR.no hN.out zx
 have q1:¬((3000:Int)<(s.length:Int)):=by omega
 have hpe:parseT atoiO s=(readT atoiO s).bind fun t=>if ttextE t=0∧ttextV t=s then some t else none:=by rw [parseT,if_neg h3]
 have HRD:=Za (fun (w':World) (hg':Glob w')=>zmV s (by omega) ha w' hg')
 have HG:=Za hg
 clear ha hg
 cases hr:readT atoiO s with
 | none =>
  have hN:=Za (show parseT atoiO s=none by rw [hpe,hr];rfl)
  have HRD1:=Za (fun (w':World) (hg':Glob w')=>(show Calls Tryz.prog 115 #[.string ⟨s.toArray⟩] w' (fun e w''=>∃v,e = .returned (.tuple #[v,.bool false])∧Ext w' w'') from by
   refine (HRD.out w' hg').mono ?_
   rintro e w1 ⟨v,b,rfl,hq1,hy,hn⟩
   cases b
   ·exact ⟨v,rfl,hq1⟩
   ·obtain ⟨t,h9, -⟩:=hy rfl
    rw [hr] at h9
    cases h9))
  clear hpe hr HRD
  go_enter Tryz.func80,Tryz.ntmps80
  go_wp2_with (first
   | (go_at_call 115;((with_reducible refine (HRD1.out _ (HG.out.ext zx)).mono ?_);rintro e w1 ⟨v,rfl,hq1⟩)))
  go_ret2
  exact PTR.no hN.out zx
 | some t =>
  have HR:=Za hr
  have hts:=zjj hr
  have htc:=zba t
  rw [hr,ZA] at hpe
  have HTX:=Za (fun (A:Option Addr) (n cap:Nat) (w':World) (hv:Tv w' A n t) (hg':Glob w')=>zfq t (by omega) A n cap w' hv hg')
  obtain ⟨X,hX⟩:∃X,ttextE t=X:=⟨_,rfl⟩
  obtain ⟨T,hT⟩:∃T,ttextV t=T:=⟨_,rfl⟩
  rw [hX,hT] at hpe
  have HX:=Za hX
  have HTT:=Za hT
  have HRD2:=Za (fun (w':World) (hg':Glob w')=>(show Calls Tryz.prog 115 #[.string ⟨s.toArray⟩] w' (fun e w''=>∃A c,e = .returned (.tuple #[.slice A t.cnt c,.bool true])∧Ext w' w''∧OwnT w'' w'.heap.size 134 (.slice A t.cnt c) t.cnt t) from by
   refine (HRD.out w' hg').mono ?_
   rintro e w1 ⟨v,b,rfl,hq1,hy,hn⟩
   cases b
   ·have:=hn rfl
    rw [HR.out] at this
    cases this
   ·obtain ⟨t',h9,ho⟩:=hy rfl
    rw [HR.out] at h9
    cases h9
    obtain ⟨A,c,rfl, -⟩:=zbG ho (by omega)
    exact ⟨A,c,rfl,hq1,ho⟩))
  clear hr hX hT HRD
  by_cases h0:X=0
  ·subst h0
   by_cases h1:T=s
   ·subst h1
    have hN:=Za (show parseT atoiO T=some t by rw [hpe];simp)
    clear hpe
    go_enter Tryz.func80,Tryz.ntmps80
    go_wp2_with (first
     | (go_at_call 115;((with_reducible refine (HRD2.out _ (HG.out.ext zx)).mono ?_);rintro e w1 ⟨A,c,rfl,hq1,ho⟩;have HO:=Za ho;have HV:=Za ((ziZ ho (by omega)));clear ho))
     | (go_at_call 71;((with_reducible refine (HTX.out _ _ _ _ (HV.out.ext zx) (HG.out.ext zx)).mono ?_);rintro e w2 ⟨rfl,hq2⟩;rw [HX.out,HTT.out])))
    go_ret2
    exact PTR.yes hN.out zx ((HO.out.low (Zf _)).ext zx)
   ·have hN:=Za (show parseT atoiO s=none by rw [hpe];simp [h1])
    have hne:(T==s)=false:=by simpa using h1
    have hne2:(T != s)=true:=by simpa using h1
    clear hpe h1
    go_enter Tryz.func80,Tryz.ntmps80
    go_wp2_with (first
     | (go_at_call 115;((with_reducible refine (HRD2.out _ (HG.out.ext zx)).mono ?_);rintro e w1 ⟨A,c,rfl,hq1,ho⟩;have HO:=Za ho;have HV:=Za ((ziZ ho (by omega)));clear ho))
     | (go_at_call 71;((with_reducible refine (HTX.out _ _ _ _ (HV.out.ext zx) (HG.out.ext zx)).mono ?_);rintro e w2 ⟨rfl,hq2⟩;rw [HX.out,HTT.out])))
    go_ret2
    exact PTR.no hN.out zx
  ·have hN:=Za (show parseT atoiO s=none by rw [hpe];simp [h0])
   have hne:(X != 0)=true:=by simpa using h0
   clear hpe h0
   go_enter Tryz.func80,Tryz.ntmps80
   go_wp2_with (first
    | (go_at_call 115;((with_reducible refine (HRD2.out _ (HG.out.ext zx)).mono ?_);rintro e w1 ⟨A,c,rfl,hq1,ho⟩;have HO:=Za ho;have HV:=Za ((ziZ ho (by omega)));clear ho))
    | (go_at_call 71;((with_reducible refine (HTX.out _ _ _ _ (HV.out.ext zx) (HG.out.ext zx)).mono ?_);rintro e w2 ⟨rfl,hq2⟩;rw [HX.out,HTT.out])))
   go_ret2
   exact PTR.no hN.out zx
end Go.Proofs.YtkneghkbgingdaaGreatDoor
