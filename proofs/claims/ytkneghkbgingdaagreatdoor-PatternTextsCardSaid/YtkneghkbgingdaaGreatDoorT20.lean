/- The contract of the reference's Twin of rows. -/
import Derived.Test.YtkneghkbgingdaaGreatDoorT19
set_option maxHeartbeats 16000000
namespace Go.Proofs.YtkneghkbgingdaaGreatDoor
set_option maxRecDepth 100000
open Go.RowKit Go.ChangeShapes Go.WideShapes Go.Joins
section
variable {α:Type} {S:Shp α} {P:Program} {ops:Array Oper} {rest:List Oper} {o:Oper} {a:Act} {K:Act->World->Prop} {Q:Exit->Act->World->Prop} {E:Prop} {w wx:World}
theorem zau (T e:TypeId) (z:Value) (bytes:Nat) {s x:Operand} {v:Value} {k m c:Nat} {A:Option Addr} {L xs:List α}
  (hgd:o.guard=none) (ho:o.op = .call { callee := .builtin .append,args:=#[s,x],argTypes:=#[T,T] })
  (ht:P.underlying T=some (.slice e)) (hinfo:(P.info? e).map (fun i=>(i.zero,i.size,i.bytes))=some (some z,S.size,bytes)) (hzs:z.cells.size=S.size) (hby:bytes<=1000)
  (hs:a.eval s=v) (hx:a.eval x = .slice A m c) (hown:OwnV S wx w.heap.size e v k L) (hext:Ext w wx) (hxs:Vec S wx A m xs) (hk:k+m<=1000000)
  (h:∀v' w1,OwnV S w1 w.heap.size e v' (k+m) (L++xs)->Hid (Ext w w1)->Hid (wx.grownBy w1 v.ownBlock/\(v'.ownBlock=v.ownBlock∨v'.ownBlock=some wx.heap.size))->K (a.put o.dst v') w1) :
  if Region.wanted o (yielded ops a.tmps)=true then Oper.wp P o a wx K Q else E:=by
 have hw:Region.wanted o (yielded ops a.tmps)=true:=by simp [Region.wanted,hgd]
 rw [if_pos hw]
 exact zaC (news:=xs.flatMap S.cells) T e z S.size bytes ho ht hinfo hzs S.pos hby hs hx hown hext (by rw [zbf,hxs.1])
  (fun hm=>by
   obtain ⟨b,off,hA,_,_⟩:=hxs.2 hm
   subst hA
   exact ⟨_,rfl,hxs.cells_at⟩) (fun u hu=>by obtain ⟨y,_,hy⟩:=ZS.1 hu;exact S.one y u hy) hk
  fun v' w' h2 h3 h4 h5=>h v' w' (by unfold OwnV;rw [Z1];exact h2) h3 ⟨h4,h5⟩
end
end Go.Proofs.YtkneghkbgingdaaGreatDoor
/- The contracts of Same of charts,both. -/
namespace Go.Proofs.YtkneghkbgingdaaGreatDoor
set_option maxRecDepth 100000
open Go.RowKit Go.ChangeShapes Go.WideShapes Go.Joins
theorem zpC {xs ys:List Ro} {n:Nat} (hx:xs.length=n) (hy:ys.length=n) (h:∀j,j<n->xs.getD j ro0=ys.getD j ro0):xs=ys:=by
 apply List.ext_getElem (by omega)
 intro i h1 h2
 have:=h i (by omega)
 rwa [Zc,Zc,Zd h1,Zd h2] at this
def sameC (s:Int) (l:List Ro) (t:Int) (r:List Ro):Bool:=decide (s=t/\l=r)
theorem zdc {s t:Int} {l r:List Ro} (h:¬(s=t/\l=r)):sameC s l t r=false:=by simpa [sameC] using h
theorem zf2 (s:Int) (l:List Ro):sameC s l s l=true:=by simp [sameC]
set_option maxRecDepth 100000 in
theorem ziT (s t:Int) (A B:Option Addr) (m n c d:Nat) (l r:List Ro) (w:World) (hr:Rws w (fun _=>True) A m l) (hr2:Rws w (fun _=>True) B n r) :
  Calls Tryz.prog 14 #[.agg #[.int .i64 s,.slice A m c],.agg #[.int .i64 t,.slice B n d]] w fun e w'=>e = .returned (.bool (sameC s l t r))/\Ext w w':=by
 have ah:=hr.len
 have aj:=hr2.len
 have ai:=hr.1
 unfold maxLen at ai
 have hm2:(m:Int)<=9223372036854775807:=by omega
 have HR:=Za hr
 have HL:=Za ah
 have al:=Za hr2
 have ad:=Za aj
 clear hr ah ai hr2 aj
 by_cases hst:s=t
 ·subst hst
  by_cases hmn:m=n
  ·subst hmn
   go_enter Tryz.func14,Tryz.ntmps14
   go_wp2_with fail
   go_loopw [5] (fun i wr=>∃(k:Nat),i = .int .i64 k/\k<=m/\Hid (∀j,j<k->l.getD j ro0=r.getD j ro0)/\Hid (Ext ((w.alloc (.cells #[.int .i64 s,.slice A m c] 24)).alloc (.cells #[.int .i64 s,.slice B m d] 24)) wr)) (fun i _=>m-(intOf i).toNat)
   case atStart=>exact ⟨0,rfl,Zy _,Za (fun j hj=>absurd hj (by omega)),Za zx⟩
   case round =>
    obtain ⟨k,rfl,hk,HG,am⟩:=hrel
    have hx:=am.out
    obtain ⟨af,hf2,ag⟩:=hx.facts
    by_cases hlt:k<m
    ·obtain ⟨b,off,A',m',c',rfl,hb0, -,c0,c1,hv,ab,ao, -⟩:=(HR.out.ext ((Zp (Zp (Zf w) _) _).trans hx)).at_ hlt
     obtain ⟨b',off',B',n',d',rfl,hb0', -,e0,e1,ak,ar,ac, -⟩:=(al.out.ext ((Zp (Zp (Zf w) _) _).trans hx)).at_ hlt
     have q0:(0:Int)<=(k:Int):=by omega
     have q1:(k:Int)<(m:Int):=by omega
     have HW:=Za hv
     have ae:=Za ak
     have ab:=Za ab
     clear hv ak ar ao ac
     generalize hrow:l.getD k ro0=x at *
     generalize hrow':r.getD k ro0=y at *
     have HX:=Za hrow
     have HY:=Za hrow'
     clear hrow hrow'
     obtain ⟨xb,xc⟩:=x
     obtain ⟨yb,yc⟩:=y
     simp only at c0 e0
     have hz1:w.heap.size<wr.heap.size:=ag _ (by simp only [World.size_alloc];omega)
     have hz2:w.heap.size+1<wr.heap.size:=ag _ (by simp only [World.size_alloc];omega)
     obtain ⟨wq,rfl⟩:∃wq:World,wq=wr:=⟨_,rfl⟩
     have g0:wq.cell? ⟨w.heap.size,1,none⟩=some (.slice (some ⟨b,off,none⟩) m c):=by rw [af _ _ (by simp only [World.size_alloc];omega)];simp [go_sem]
     have g1:wq.cell? ⟨w.heap.size+1,1,none⟩=some (.slice (some ⟨b',off',none⟩) m d):=by rw [af _ _ (by simp only [World.size_alloc];omega)];simp [go_sem]
     by_cases hbb:xb=yb
     ·subst hbb
      by_cases hcc:xc=yc
      ·subst hcc
       have HN:=Za (show ∀j,j<k+1->l.getD j ro0=r.getD j ro0 from fun j hj=>by
        rcases Z0 j k with h | h
        ·exact HG.out j h
        ·obtain rfl:j=k:=by omega
         rw [HX.out,HY.out])
       go_wp2_with fail
       go_region_held3 (fun w'=>w'.cell? ⟨w.heap.size,1,none⟩=some (.slice (some ⟨b,off,none⟩) m c)/\w'.cell? ⟨w.heap.size+1,1,none⟩=some (.slice (some ⟨b',off',none⟩) m d)/\w'.cell? ⟨b,off+k*2,none⟩=some (.bool xb)/\w'.cell? ⟨b,off+k*2+1,none⟩=some (.slice A' m' c')/\w'.cell? ⟨b',off'+k*2,none⟩=some (.bool xb)/\w'.cell? ⟨b',off'+k*2+1,none⟩=some (.slice B' n' d')) (go_keep)
        (first | (go_at_call 49;((with_reducible refine (zdJ m' n' c' d' A' B' xc xc _ (HW.out.ext zx) (ae.out.ext zx) ab.out).mono ?_);rintro e w1 ⟨rfl,hq1⟩;rw [show decide (xc=xc)=true from ZW rfl];have aa:Ext wq w1:=(zx);obtain ⟨hg1,ap,aq⟩:=aa.facts)))
       go_wp2
       go_roundw
       case rel=>exact ⟨k+1,by go_num,by omega,HN,Za (hx.trans aa)⟩
       case measure=>simp [intOf];omega
      ·have HD:=Za (show decide (xc=yc)=false by simp [hcc])
       have HN:=Za (zdc (s:=s) (t:=s) (l:=l) (r:=r) (fun h=>by
        have h1:=HX.out
        rw [h.2,HY.out] at h1
        cases h1
        exact hcc rfl))
       clear hcc
       go_wp2_with fail
       go_region_held3 (fun w'=>w'.cell? ⟨w.heap.size,1,none⟩=some (.slice (some ⟨b,off,none⟩) m c)/\w'.cell? ⟨w.heap.size+1,1,none⟩=some (.slice (some ⟨b',off',none⟩) m d)/\w'.cell? ⟨b,off+k*2,none⟩=some (.bool xb)/\w'.cell? ⟨b,off+k*2+1,none⟩=some (.slice A' m' c')/\w'.cell? ⟨b',off'+k*2,none⟩=some (.bool xb)/\w'.cell? ⟨b',off'+k*2+1,none⟩=some (.slice B' n' d')) (go_keep)
        (first | (go_at_call 49;((with_reducible refine (zdJ m' n' c' d' A' B' xc yc _ (HW.out.ext zx) (ae.out.ext zx) ab.out).mono ?_);rintro e w1 ⟨rfl,hq1⟩;rw [HD.out];have aa:Ext wq w1:=(zx);obtain ⟨hg1,ap,aq⟩:=aa.facts)))
       go_wp2
       go_ret
       exact ⟨by rw [HN.out];rfl,(Zp (Zp (Zf w) _) _).trans (hx.trans aa)⟩
     ·have HN:=Za (zdc (s:=s) (t:=s) (l:=l) (r:=r) (fun h=>by
       have h1:=HX.out
       rw [h.2,HY.out] at h1
       cases h1
       exact hbb rfl))
      have an:(xb=true/\yb=false)∨(xb=false/\yb=true):=by cases xb <;> cases yb <;> simp at hbb ⊢
      clear hbb
      rcases an with ⟨rfl,rfl⟩ | ⟨rfl,rfl⟩
      all_goals
       go_wp2_with fail
       go_quiet (fail)
       go_wp2
       go_ret
       exact ⟨by rw [HN.out];rfl,(Zp (Zp (Zf w) _) _).trans zx⟩
    ·obtain rfl:k=m:=by omega
     have HE:=Za (zpC HL.out ad.out HG.out)
     have HN:=Za (show sameC s l s r=true by rw [HE.out,zf2])
     go_wp2_with fail
     go_ret
     exact ⟨by rw [HN.out];rfl,(Zp (Zp (Zf w) _) _).trans hx⟩
  ·have HN:=Za (zdc (s:=s) (t:=s) (l:=l) (r:=r) (fun h=>hmn (by rw [<-HL.out,h.2,ad.out])))
   have hne:((m:Int) != (n:Int))=true:=by simp;omega
   go_enter Tryz.func14,Tryz.ntmps14
   go_wp2_with fail
   go_ret
   exact ⟨by rw [HN.out];rfl,zx⟩
 ·have HN:=Za (zdc (s:=s) (t:=t) (l:=l) (r:=r) (fun h=>hst h.1))
  have hne:(s != t)=true:=by simpa using hst
  clear hst
  go_enter Tryz.func14,Tryz.ntmps14
  go_wp2_with fail
  go_ret
  exact ⟨by rw [HN.out];rfl,zx⟩
end Go.Proofs.YtkneghkbgingdaaGreatDoor
/- The contracts of Join of charts,both. -/
namespace Go.Proofs.YtkneghkbgingdaaGreatDoor
set_option maxRecDepth 100000
open Go.RowKit Go.ChangeShapes Go.WideShapes Go.Joins
end Go.Proofs.YtkneghkbgingdaaGreatDoor
/- ReadRows. -/
namespace Go.Proofs.YtkneghkbgingdaaGreatDoor
set_option maxRecDepth 100000
open Go.RowKit Go.ChangeShapes Go.WideShapes Go.Joins
theorem Ext.setq {a b:World} (h:Ext a b) {p:Addr} (_:p.block<a.heap.size) (u:Value):Ext (a.setCell p u) (b.setCell p u):=by
 refine ⟨h.os,h.tape,h.output,by simpa using h.size,fun k hk=>?_⟩
 have aa:k<a.heap.size:=by simpa using hk
 simp only [World.setCell,Array.getElem?_modify]
 rw [h.block k aa]
theorem OwnQ.set {w:World} {B:Nat} {e:TypeId} {v:Value} {k:Nat} {l:List Ro} (h:OwnQ w B e v k l) {p:Addr} (hp:p.block<B) (u:Value):OwnQ (w.setCell p u) B e v k l:=by
 have aa:=h.blk
 obtain ⟨xs,h1,h2,h3⟩:=h
 refine ⟨xs,h1.but (E:=some p.block) (But.own (But.refl _ _) rfl u) ?_,h2.keep (by simp) fun b hb hk=>⟨⟨hk.1,hk.2⟩,fun o=>?_⟩,h3⟩
 ·cases hv:v.ownBlock with
  | none=>exact .inl rfl
  | some b =>
   refine .inr fun e9=>?_
   have h9:=aa b hv
   cases e9
   omega
 ·exact Zj _ p ⟨b,o,none⟩ _ (by intro e9;subst e9;have:=hk.1;simp only at hp;omega)
end Go.Proofs.YtkneghkbgingdaaGreatDoor
/- The rows of a chart are no longer than their capacities;how that is read off what comes in. -/
namespace Go.Proofs.YtkneghkbgingdaaGreatDoor
set_option maxRecDepth 100000
open Go.RowKit Go.ChangeShapes Go.WideShapes Go.Joins
def Caps (w:World) (A:Option Addr) (n:Nat):Prop:=∃xs:List Raw,Vec shRaw w A n xs/\∀x∈xs,x.n<=x.c
theorem Caps.ext {w w':World} {A:Option Addr} {n:Nat} (h:Caps w A n) (hb:Ext w w'):Caps w' A n:=by
 obtain ⟨xs,h1,h2⟩:=h
 exact ⟨xs,h1.ext hb,h2⟩
theorem Caps.at_ {w:World} {A1:Option Addr} {b off n k n1 c1:Nat} (h:Caps w (some ⟨b,off,none⟩) n) (hk:k<n) (hc:w.cell? ⟨b,off+k*2+1,none⟩=some (.slice A1 n1 c1)):n1<=c1:=by
 obtain ⟨xs,h1,h2⟩:=h
 obtain ⟨b',off',e,_,h3⟩:=h1.2 (by omega)
 cases e
 have hx:xs[k]?=some (xs.getD k raw0):=zjZ (by rw [h1.1];exact hk)
 have h4:w.cell? ⟨b,off+k*2+1,none⟩=some (.slice (xs.getD k raw0).A (xs.getD k raw0).n (xs.getD k raw0).c):=h3 k _ hx 1 _ rfl
 rw [hc] at h4
 cases h4
 exact h2 _ (Z7 hx)
theorem Caps.none_ (w:World) (A:Option Addr):Caps w A 0:=⟨[],Vec.none_ _ _ _,fun x hx=>by cases hx⟩
def SecCaps (w:World) (A:Option Addr) (n:Nat):Prop:=∃xs:List RSec,Vec shSec w A n xs/\∀x∈xs,Caps w x.A x.n
theorem SecCaps.ext {w w':World} {A:Option Addr} {n:Nat} (h:SecCaps w A n) (hb:Ext w w'):SecCaps w' A n:=by
 obtain ⟨xs,h1,h2⟩:=h
 exact ⟨xs,h1.ext hb,fun x hx=>(h2 x hx).ext hb⟩
theorem SecCaps.at_ {w:World} {A1:Option Addr} {b off n k n1 c1:Nat} (h:SecCaps w (some ⟨b,off,none⟩) n) (hk:k<n) (hc:w.cell? ⟨b,off+k*3+2,none⟩=some (.slice A1 n1 c1)):Caps w A1 n1:=by
 obtain ⟨xs,h1,h2⟩:=h
 obtain ⟨b',off',e,_,h3⟩:=h1.2 (by omega)
 cases e
 have hx:xs[k]?=some (xs.getD k rsec0):=by
  rw [Zc,Zd (by rw [h1.1];exact hk)];rfl
 have h4:w.cell? ⟨b,off+k*3+2,none⟩=some (.slice (xs.getD k rsec0).A (xs.getD k rsec0).n (xs.getD k rsec0).c):=h3 k _ hx 2 _ rfl
 rw [hc] at h4
 cases h4
 exact h2 _ (Z7 hx)
section
variable {H:Type} {enc:TypeId×Value->H} {w:World} {base:Nat} {spare:Nat->Bool} {held:Bool}
theorem zfG {fuel:Nat} {A0:Option Addr} {n0 c0:Nat} {y:DataW H×List MemPlace} (h:DataW.trod enc Tryz.prog w base spare held fuel 22 [.slice A0 n0 c0]=some y):Caps w A0 n0:=by
 obtain ⟨A,n,c,xs,e,hv,hm,hq⟩:=zbn (S:=shRaw) (Q:=fun x=>x.n<=x.c) Tryz.underlying22 (by kernel_rfl) (fun fuel cs y hl hy=>by
  obtain ⟨xs,m,_,_,_,ab,aa⟩:=DataW.trod_struct Tryz.underlying75 hy
  match cs,hl with
  | [c0,c1],_ =>
   match xs,ab with
   | [y0,y1],_ =>
    have C1:Tryz.prog.cellsOf 4=1:=by kernel_rfl
    have C2:Tryz.prog.cellsOf 73=1:=by kernel_rfl
    have h0:=aa 0 _ rfl
    have h1:=aa 1 _ rfl
    simp [C1,C2] at h0 h1
    obtain ⟨b,e1,_⟩:=DataW.trod_bool Tryz.underlying4 h0
    obtain ⟨A',n',c',l,rfl,hv,hm,hb⟩:=zdD h1
    simp at e1
    subst e1
    exact ⟨⟨b,A',n',c'⟩,rfl,zcL Tryz.underlying73 h1⟩) h
 cases e
 exact ⟨xs,hv,hq⟩
theorem zdC {fuel:Nat} {A0:Option Addr} {n0 c0:Nat} {y:DataW H×List MemPlace} (h:DataW.trod enc Tryz.prog w base spare held fuel 40 [.slice A0 n0 c0]=some y):SecCaps w A0 n0:=by
 obtain ⟨A,n,c,xs,e,hv,hm,hq⟩:=zbn (S:=shSec) (Q:=fun x=>Caps w x.A x.n) Tryz.underlying40 (by kernel_rfl) (fun fuel cs y hl hy=>by
  obtain ⟨xs,m,_,_,_,ac,aa⟩:=DataW.trod_struct Tryz.underlying59 hy
  match cs,hl with
  | [c0,c1,c2],_ =>
   match xs,ac with
   | [y0,y1],_ =>
    have C0:Tryz.prog.cellsOf 9=1:=by kernel_rfl
    have C1:Tryz.prog.cellsOf 24=2:=by kernel_rfl
    have h0:=aa 0 _ rfl
    have h1:=aa 1 _ rfl
    simp [C0,C1] at h0 h1
    obtain ⟨b,e0,_,_⟩:=DataW.trod_string Tryz.underlying9 h0
    simp at e0
    subst e0
    obtain ⟨zs,m2,_,_,_,ad,ab⟩:=DataW.trod_struct Tryz.underlying24 h1
    match zs,ad with
    | [z0,z1],_ =>
     have C2:Tryz.prog.cellsOf 3=1:=by kernel_rfl
     have C3:Tryz.prog.cellsOf 22=1:=by kernel_rfl
     have k0:=ab 0 _ rfl
     have k1:=ab 1 _ rfl
     simp [C2,C3] at k0 k1
     obtain ⟨n1,e1,_⟩:=DataW.trod_int Tryz.underlying3 k0
     simp at e1
     subst e1
     obtain ⟨A',n',c',l,rfl,hl⟩:=zcW k1
     exact ⟨⟨b.data.toList,n1,A',n',c'⟩,by simp [shSec],zfG k1⟩) h
 cases e
 exact ⟨xs,hv,hq⟩
theorem zeH {r:Reach} {b0:Nat} {v:Value} {d:DataW H} {p:List MemPlace} (hv:Value.okWide Tryz.prog w r b0 42 v) (h:DataW.Trod enc Tryz.prog w base spare held 42 v d p) :
  ∃(nm:List UInt8) (g1 g2 g3 g4:Int) (As:Option Addr) (ns cs:Nat) (st:List Stf) (Ac:Option Addr) (nc cc:Nat) (se:List Sec),
   v = .agg #[.string ⟨nm.toArray⟩,.int .i64 g1,.int .i64 g2,.int .i64 g3,.int .i64 g4,.slice As ns cs,.slice Ac nc cc]/\Vec shStf w As ns st/\ns<=maxLen/\Secs w Ac nc se/\SecCaps w Ac nc/\nc<=cc:=by
 obtain ⟨nm,g1,g2,g3,g4,As,ns,cs,st,Ac,nc,cc,se,rfl,h1,h2,h3⟩:=zfH hv h
 refine ⟨nm,g1,g2,g3,g4,As,ns,cs,st,Ac,nc,cc,se,rfl,h1,h2,h3,?_⟩
 obtain ⟨fuel,hf⟩:=h
 obtain ⟨xs,m,_,_,_,ab,aa⟩:=DataW.trod_struct Tryz.underlying42 hf
 match xs,ab with
 | [y0,y1,y2,y3],_ =>
  have C3:Tryz.prog.cellsOf 40=1:=by kernel_rfl
  have k3:=aa 3 _ rfl
  simp [C3,Value.cells] at k3
  exact ⟨zdC k3,zcL Tryz.underlying40 k3⟩
end
end Go.Proofs.YtkneghkbgingdaaGreatDoor
/- The program's reader of patterns: what lies where. -/
namespace Go.Proofs.YtkneghkbgingdaaGreatDoor
set_option maxRecDepth 100000
open Go.RowKit Go.ChangeShapes Go.WideShapes Go.Joins
def CellsAt (w:World) (g:Nat) (L:List Value):Prop:=∀j v,L[j]?=some v->w.cell? ⟨g,j,none⟩=some v
theorem CellsAt.ext {w w':World} {g:Nat} {L:List Value} (h:CellsAt w g L) (hb:Ext w w') (hg:g<w.heap.size):CellsAt w' g L:=fun j v hv=>(Zs (p:=⟨g,j,none⟩) hb hg).trans (h j v hv)
theorem CellsAt.set {w:World} {g:Nat} {L:List Value} (h:CellsAt w g L) {j:Nat} (hj:j<L.length) (u:Value):CellsAt (w.setCell ⟨g,j,none⟩ u) g (L.set j u):=by
 intro i v hv
 by_cases hij:i=j
 ·subst hij
  rw [List.getElem?_set_self hj] at hv
  cases hv
  exact ZJ _ _ _ (h i _ (Zd hj))
 ·rw [List.getElem?_set_ne (fun e=>hij e.symm)] at hv
  rw [Zj _ _ _ _ (by intro e;cases e;exact hij rfl)]
  exact h i v hv
theorem CellsAt.other {w:World} {g:Nat} {L:List Value} (h:CellsAt w g L) {p:Addr} (hp:p.block≠g) (u:Value):CellsAt (w.setCell p u) g L:=fun j v hv=>by
 rw [Zj _ _ _ _ (by intro e;cases e;exact hp rfl)]
 exact h j v hv
def pcells (p:PSt) (V1 V2:Value):List Value:=[.string ⟨p.nm.toArray⟩,.int .i64 p.g1,.int .i64 p.g2,.int .i64 p.g3,.int .i64 p.g4,V1,V2]
def nilV:Value := .slice none 0 0
def SeK (W:World) (B:Nat) (V2:Value) (x:RSec) (r:Sec):Prop:=x.nm=r.nm/\x.s=r.s/\Rws W (fun b=>B<=b/\some b≠V2.ownBlock) x.A x.n r.rows/\x.n<=x.c
def SecO (W1 W wr:World) (V2:Value) (se:List Sec):Prop:=(se=[]/\V2=nilV)∨∃(pre:List Sec) (x:Sec) (xs:List RSec) (A:Option Addr) (n c:Nat),se=pre++[x] /\
 OwnV shSec W W1.heap.size 59 V2 se.length (xs++[⟨x.nm,x.s,A,n,c⟩])/\xs.length=pre.length/\(∀k,k<pre.length->SeK W W1.heap.size V2 (xs.getD k rsec0) (pre.getD k sec0))/\OwnQ wr W.heap.size 75 (.slice A n c) n x.rows
theorem SecO.ext {W1 W wr wx:World} {V2:Value} {se:List Sec} (h:SecO W1 W wr V2 se) (hb:Ext wr wx):SecO W1 W wx V2 se:=by
 rcases h with h | ⟨pre,x,xs,A,n,c,h1,h2,h3,h4,h5⟩
 ·exact .inl h
 ·exact .inr ⟨pre,x,xs,A,n,c,h1,h2,h3,h4,h5.ext hb⟩
theorem OwnV.setb {α:Type} {S:Shp α} {w:World} {B:Nat} {e:TypeId} {v:Value} {k:Nat} {L:List α} (h:OwnV S w B e v k L) {p:Addr} (hp:p.block<B) (u:Value):OwnV S (w.setCell p u) B e v k L:=by
 refine h.but (E:=some p.block) (But.own (But.refl _ _) rfl u) ?_
 cases hv:v.ownBlock with
 | none=>exact .inl rfl
 | some b =>
  refine .inr fun e9=>?_
  have h9:=h.blk b hv
  cases e9
  omega
theorem SecO.set {W1 W wr:World} {V2:Value} {se:List Sec} (h:SecO W1 W wr V2 se) {p:Addr} (hp:p.block<W1.heap.size) (hle:W1.heap.size<=W.heap.size) (u:Value):SecO (W1.setCell p u) (W.setCell p u) (wr.setCell p u) V2 se:=by
 rcases h with h | ⟨pre,x,xs,A,n,c,h1,h2,h3,h4,h5⟩
 ·exact .inl h
 ·refine .inr ⟨pre,x,xs,A,n,c,h1,?_,h3,fun k hk=>?_,?_⟩
  ·simpa using h2.setb hp u
  ·obtain ⟨a1,a2,a3,a4⟩:=h4 k hk
   refine ⟨a1,a2,?_,a4⟩
   rw [World.size_setCell]
   exact a3.keep (by simp) fun b _ hb=>⟨hb,fun o=>Zj _ p ⟨b,o,none⟩ _ (by intro e9;subst e9;have:=hb.1;simp only at hp;omega)⟩
  ·simpa using h5.set (by omega) u
structure PM (gR gp:Nat) (w w0 W1 W wr:World) (p:PSt) (V1 V2:Value):Prop where
 e0:Ext w w0
 e1:Ext w0 W1
 e2:Ext W1 W
 e3:Ext W wr
 lt:w.heap.size<=gR/\gR<gp/\gp<w0.heap.size
 rb:CellsAt w0 gR (pcells pst0 nilV nilV)
 pb:CellsAt w0 gp (pcells p V1 V2)
 z0:∀o,w0.frozen? ⟨gR,o,none⟩=false
 z1:∀o,w0.frozen? ⟨gp,o,none⟩=false
 st:OwnV shStf W1 w0.heap.size 61 V1 p.st.length p.st
 se:SecO W1 W wr V2 p.se
section
variable {gR gp:Nat} {w w0 W1 W wr wx:World} {p p':PSt} {V1 V2 V1' V2':Value}
theorem PM.ext (h:PM gR gp w w0 W1 W wr p V1 V2) (hb:Ext wr wx):PM gR gp w w0 W1 W wx p V1 V2:={ h with e3:=h.e3.trans hb,se:=h.se.ext hb }
theorem PM.all (h:PM gR gp w w0 W1 W wr p V1 V2):Ext w wr:=h.e0.trans (h.e1.trans (h.e2.trans h.e3))
theorem PM.at0 (h:PM gR gp w w0 W1 W wr p V1 V2) (hb:Ext w0 wx):CellsAt wx gR (pcells pst0 nilV nilV)/\CellsAt wx gp (pcells p V1 V2)/\(∀o,wx.frozen? ⟨gR,o,none⟩=false)/\(∀o,wx.frozen? ⟨gp,o,none⟩=false)/\gR<wx.heap.size/\gp<wx.heap.size:=by
 obtain ⟨l0,l1,l2⟩:=h.lt
 obtain ⟨hc,hf,hz⟩:=hb.facts
 exact ⟨h.rb.ext hb (by omega),h.pb.ext hb l2,fun o=>(hf _ o (by omega)).trans (h.z0 o),fun o=>(hf _ o l2).trans (h.z1 o),hz _ (by omega),hz _ l2⟩
theorem PM.b0 (h:PM gR gp w w0 W1 W wr p V1 V2):Ext w0 wr:=h.e1.trans (h.e2.trans h.e3)
theorem PM.setp (h:PM gR gp w w0 W1 W wr p V1 V2) {j:Nat} {u:Value} (hj:j<7) (hs:(pcells p V1 V2).set j u=pcells p' V1 V2) (h1:p'.st=p.st) (h2:p'.se=p.se) :
  PM gR gp w (w0.setCell ⟨gp,j,none⟩ u) (W1.setCell ⟨gp,j,none⟩ u) (W.setCell ⟨gp,j,none⟩ u) (wr.setCell ⟨gp,j,none⟩ u) p' V1 V2:=by
 obtain ⟨l0,l1,l2⟩:=h.lt
 have s1:=Zl h.e1
 have s2:=Zl h.e2
 refine ⟨Zr h.e0 (by simp only;omega) _,h.e1.setq (by simpa using l2) _,h.e2.setq (by simp only;omega) _,h.e3.setq (by simp only;omega) _,⟨l0,l1,by simpa using l2⟩,h.rb.other (by simp only;omega) _,?_,fun o=>(Zw _ _ _ _).trans (h.z0 o),fun o=>(Zw _ _ _ _).trans (h.z1 o),?_,?_⟩
 ·rw [<-hs];exact h.pb.set (by simpa [pcells] using hj) u
 ·rw [h1,World.size_setCell];exact h.st.setb (by simpa using l2) u
 ·rw [h2];exact h.se.set (by simp only;omega) s2 u
theorem PM.addStf (h:PM gR gp w w0 W1 W wr p V1 V2) (hn:p.se=[]) {x:Stf} (ho:OwnV shStf wx w0.heap.size 61 V1' (p.st.length+1) (p.st++[x])) (hx:Ext w0 wx) :
  PM gR gp w (w0.setCell ⟨gp,5,none⟩ V1') (wx.setCell ⟨gp,5,none⟩ V1') (wx.setCell ⟨gp,5,none⟩ V1') (wx.setCell ⟨gp,5,none⟩ V1') { p with st:=p.st++[x] } V1' V2:=by
 obtain ⟨l0,l1,l2⟩:=h.lt
 refine ⟨Zr h.e0 (by simp only;omega) _,hx.setq (by simpa using l2) _,Zf _,Zf _,⟨l0,l1,by simpa using l2⟩,h.rb.other (by simp only;omega) _,?_,fun o=>(Zw _ _ _ _).trans (h.z0 o),fun o=>(Zw _ _ _ _).trans (h.z1 o),?_,?_⟩
 ·have h9:=h.pb.set (j:=5) (by simp [pcells]) V1'
  simpa [pcells] using h9
 ·rw [World.size_setCell,Zb,Zv]
  exact ho.setb (by simpa using l2) V1'
 ·rcases h.se with ⟨_,h2⟩ | ⟨pre,y,_,_,_,_,h1,_⟩
  ·exact .inl ⟨hn,h2⟩
  ·rw [hn] at h1;simp at h1
theorem PM.addSec (h:PM gR gp w w0 W1 W wr p V1 V2) {nm:List UInt8} {s:Int} {xs:List RSec} (hb:Ext wr wx) {wy:World}
  (ho:OwnV shSec wy W1.heap.size 59 V2' (p.se.length+1) (xs++[⟨nm,s,none,0,0⟩])) (hx:Ext W1 wy) (hg:wx.grownBy wy V2.ownBlock) (hv:V2'.ownBlock=V2.ownBlock∨V2'.ownBlock=some wx.heap.size)
  (hk:xs.length=p.se.length) (hse:∀k,k<p.se.length->SeK wr W1.heap.size V2 (xs.getD k rsec0) (p.se.getD k sec0)) :
  PM gR gp w (w0.setCell ⟨gp,6,none⟩ V2') (W1.setCell ⟨gp,6,none⟩ V2') (wy.setCell ⟨gp,6,none⟩ V2') (wy.setCell ⟨gp,6,none⟩ V2') { p with se:=p.se++[⟨nm,s,[]⟩] } V1 V2':=by
 obtain ⟨l0,l1,l2⟩:=h.lt
 have s1:=Zl h.e1
 refine ⟨Zr h.e0 (by simp only;omega) _,h.e1.setq (by simpa using l2) _,hx.setq (by simp only;omega) _,Zf _,⟨l0,l1,by simpa using l2⟩,h.rb.other (by simp only;omega) _,?_,fun o=>(Zw _ _ _ _).trans (h.z0 o),fun o=>(Zw _ _ _ _).trans (h.z1 o),?_,.inr ⟨p.se,⟨nm,s,[]⟩,xs,none,0,0,rfl,?_,hk,fun k hk2=>?_,OwnQ.nil _ _ _⟩⟩
 ·have h9:=h.pb.set (j:=6) (by simp [pcells]) V2'
  simpa [pcells] using h9
 ·rw [World.size_setCell]
  exact h.st.setb (by simpa using l2) V2'
 ·rw [World.size_setCell,Zb,Zv]
  exact ho.setb (by simp only;omega) V2'
 ·obtain ⟨a1,a2,a3,a4⟩:=hse k hk2
  refine ⟨a1,a2,?_,a4⟩
  rw [World.size_setCell]
  have hs9:=Zl hb
  have key:Rws wy (fun b=>W1.heap.size<=b/\some b≠V2'.ownBlock) (xs.getD k rsec0).A (xs.getD k rsec0).n (p.se.getD k sec0).rows:=by
   refine (a3.ext hb).keep (But.size hg) fun b hlt hb2=>⟨⟨hb2.1,?_⟩,fun o=>But.cell (p:=⟨b,o,none⟩) hg hlt hb2.2⟩
   rcases hv with hv | hv
   ·rw [hv];exact hb2.2
   ·rw [hv];intro e;cases e;omega
  exact key.keep (by simp) fun b _ hb3=>⟨hb3,fun o=>Zj _ ⟨gp,6,none⟩ ⟨b,o,none⟩ _ (by have h8:=hb3.1;intro e9;simp at e9 <;> omega)⟩
end
theorem SecO.flat {W1 W wr:World} {V2:Value} {se:List Sec} (h:SecO W1 W wr V2 se) (h1:Ext W1 W) (h3:Ext W wr) (hr:∀x∈se,x.rows.length<=1000000) :
  ∃xs:List RSec,xs.length=se.length/\OwnV shSec wr W1.heap.size 59 V2 se.length xs/\∀k,k<se.length->SeK wr W1.heap.size V2 (xs.getD k rsec0) (se.getD k sec0):=by
 rcases h with ⟨rfl,rfl⟩ | ⟨pre,x,xs,A,n,c,rfl,h2,h4,h5,h6⟩
 ·exact ⟨[],rfl,OwnV.nil _ _ _ _,fun k hk=>by simp at hk⟩
 ·refine ⟨_,by simp [h4],h2.ext h3,fun k hk=>?_⟩
  rw [Zb,Zv] at hk
  rcases Z0 k pre.length with hlt | hge
  ·have e1:(xs++[(⟨x.nm,x.s,A,n,c⟩:RSec)]).getD k rsec0=xs.getD k rsec0:=by
    rw [Zc,ZN (by omega),<-Zc]
   have e2:(pre++[x]).getD k sec0=pre.getD k sec0:=by
    rw [Zc,ZN hlt,<-Zc]
   rw [e1,e2]
   obtain ⟨a1,a2,a3,a4⟩:=h5 k hlt
   exact ⟨a1,a2,a3.ext h3,a4⟩
  ·obtain rfl:k=pre.length:=by omega
   have e1:(xs++[(⟨x.nm,x.s,A,n,c⟩:RSec)]).getD pre.length rsec0=⟨x.nm,x.s,A,n,c⟩:=by
    rw [<-h4];simp
   have e2:(pre++[x]).getD pre.length sec0=x:=by simp
   rw [e1,e2]
   have hx:=hr x (by simp)
   have hl6:=h6.len
   obtain ⟨A',c',e3,aa⟩:=zbE h6 (by omega)
   cases e3
   obtain ⟨ys,y1, -, -⟩:=h6
   refine ⟨rfl,rfl,aa.mono fun b _ hb=>⟨?_,fun e4=>?_⟩,zb2 y1⟩
   ·have hb2:W.heap.size<=b:=hb
    have:=Zl h1
    omega
   ·have hb2:W.heap.size<=b:=hb
    have:=(h2.blk b e4.symm).2
    omega
section
variable {gR gp:Nat} {w w0 W1 W wr wx:World} {p p':PSt} {V1 V2 V1' V2':Value}
theorem zZ8 {p:Prop} (h:p:=by
 obtain ⟨xs,h1,h2,h3⟩:=h.se.flat h.e2 h.e3 hr
 obtain ⟨A,c,rfl,hv⟩:=zav h2
 exact ⟨A,c,rfl,⟨by unfold maxLen;omega,xs,hv,h1,fun k hk=>⟨(h3 k hk).1,(h3 k hk).2.1,(h3 k hk).2.2.1.any,(h3 k hk).2.2.2⟩⟩,zb2 h2⟩):p:=h
theorem PM.secs (h:PM gR gp w w0 W1 W wr p V1 V2) (hr:∀x∈p.se,x.rows.length<=1000000) (hl:p.se.length<=1000000):∃A c,V2 = .slice A p.se.length c/\Secs wr A p.se.length p.se/\p.se.length<=c:=by
 exact zZ8
theorem PM.stfs (h:PM gR gp w w0 W1 W wr p V1 V2):∃A c,V1 = .slice A p.st.length c/\Vec shStf wr A p.st.length p.st:=by
 obtain ⟨A,c,rfl,hv⟩:=zav h.st
 exact ⟨A,c,rfl,hv.ext (h.e2.trans h.e3)⟩
theorem PM.last (h:PM gR gp w w0 W1 W wr p V1 V2) {pre:List Sec} {x:Sec} (hse:p.se=pre++[x]):∃(g2 cc:Nat) (A:Option Addr) (n c:Nat),V2 = .slice (some ⟨g2,0,none⟩) (pre.length+1) cc/\g2<W.heap.size /\
  W.cell? ⟨g2,pre.length*3+2,none⟩=some (.slice A n c)/\W.frozen? ⟨g2,pre.length*3+2,none⟩=false/\OwnQ wr W.heap.size 75 (.slice A n c) n x.rows /\
  ∀(w2:World) (A':Option Addr) (n' c':Nat) (l:List Ro),Ext W w2->OwnQ w2 W.heap.size 75 (.slice A' n' c') n' l ->
   PM gR gp w w0 W1 (W.setCell ⟨g2,pre.length*3+2,none⟩ (.slice A' n' c')) (w2.setCell ⟨g2,pre.length*3+2,none⟩ (.slice A' n' c')) { p with se:=pre++[{ x with rows:=l }] } V1 V2:=by
 rcases h.se with ⟨h1,_⟩ | ⟨pre',x',xs,A,n,c,h1,h2,h4,h5,h6⟩
 ·rw [hse] at h1;simp at h1
 ·rw [hse] at h1
  obtain ⟨rfl,e2⟩:=List.append_inj' h1 rfl
  cases e2
  have ad:p.se.length=pre.length+1:=by rw [hse];simp
  rw [ad] at h2
  obtain ⟨g2,cc,rfl,hg1,ac⟩:=World.ownsRow.form h2 (by omega)
  have ae:(xs.flatMap shSec.cells).length=pre.length*3:=by rw [zbf,h4];rfl
  have ab:(xs++[(⟨x.nm,x.s,A,n,c⟩:RSec)]).flatMap shSec.cells=xs.flatMap shSec.cells++[.string ⟨x.nm.toArray⟩,.int .i64 x.s,.slice A n c]:=by
   rw [Z1];rfl
  have aa:=World.ownsRow.cellAt h2 (pre.length*3+2) (by show pre.length*3+2<(pre.length+1)*3;omega)
  rw [ab,ZL (by omega),ae,show pre.length*3+2-pre.length*3=2 by omega] at aa
  refine ⟨g2,cc,A,n,c,rfl,ac,aa,World.ownsRow.frozenAt h2 _,h6,fun w2 A' n' c' l hx ho=>?_⟩
  have s1:=Zl h.e1
  obtain ⟨l0,l1,l2⟩:=h.lt
  refine { h with e2:=Zr h.e2 (by simpa using hg1) _,e3:=hx.setq (by simpa using ac) _,se := .inr ⟨pre,{ x with rows:=l },xs,A',n',c',rfl,?_,h4,fun k hk=>?_,?_⟩ }
  ·have h9:=(World.ownsRow.stored h2 (pre.length*3+2) (.slice A' n' c')).1
   rw [ab,List.set_append_right _ _ (by omega),ae,show pre.length*3+2-pre.length*3=2 by omega] at h9
   unfold OwnV
   rw [Z1,Zb,Zv]
   exact h9
  ·obtain ⟨a1,a2,a3,a4⟩:=h5 k hk
   exact ⟨a1,a2,a3.keep (by simp) fun b _ hb=>⟨hb,fun o=>Zj _ ⟨g2,_,none⟩ ⟨b,o,none⟩ _ (by intro e9;cases e9;exact hb.2 rfl)⟩,a4⟩
  ·rw [World.size_setCell]
   exact ho.set (by simpa using ac) _
theorem PM.start (w:World):PM w.heap.size (w.heap.size+1) w ((w.alloc (.cells #[.string ⟨#[]⟩,.int .i64 0,.int .i64 0,.int .i64 0,.int .i64 0,.slice none 0 0,.slice none 0 0] 42)).alloc (.cells #[.string ⟨#[]⟩,.int .i64 0,.int .i64 0,.int .i64 0,.int .i64 0,.slice none 0 0,.slice none 0 0] 42)) ((w.alloc (.cells #[.string ⟨#[]⟩,.int .i64 0,.int .i64 0,.int .i64 0,.int .i64 0,.slice none 0 0,.slice none 0 0] 42)).alloc (.cells #[.string ⟨#[]⟩,.int .i64 0,.int .i64 0,.int .i64 0,.int .i64 0,.slice none 0 0,.slice none 0 0] 42))
  ((w.alloc (.cells #[.string ⟨#[]⟩,.int .i64 0,.int .i64 0,.int .i64 0,.int .i64 0,.slice none 0 0,.slice none 0 0] 42)).alloc (.cells #[.string ⟨#[]⟩,.int .i64 0,.int .i64 0,.int .i64 0,.int .i64 0,.slice none 0 0,.slice none 0 0] 42)) ((w.alloc (.cells #[.string ⟨#[]⟩,.int .i64 0,.int .i64 0,.int .i64 0,.int .i64 0,.slice none 0 0,.slice none 0 0] 42)).alloc (.cells #[.string ⟨#[]⟩,.int .i64 0,.int .i64 0,.int .i64 0,.int .i64 0,.slice none 0 0,.slice none 0 0] 42)) pst0 nilV nilV:=by
 have aa:∀(w:World) (j:Nat) (v:Value),(pcells pst0 nilV nilV)[j]?=some v->(w.alloc (.cells #[.string ⟨#[]⟩,.int .i64 0,.int .i64 0,.int .i64 0,.int .i64 0,.slice none 0 0,.slice none 0 0] 42)).cell? ⟨w.heap.size,j,none⟩=some v:=fun w j v hv=>by
  rw [cell_of_row _ w.heap.size _ _ _ (0,0) (heap_alloc_new w _)]
  simpa [pcells,pst0,nilV] using hv
 refine ⟨((Zf w).alloc _).alloc _,Zf _,Zf _,Zf _,⟨Zg _,by omega,by simp⟩,fun j v hv=>?_,fun j v hv=>?_,fun o=>?_,fun o=>by simp [go_sem],OwnV.nil _ _ _ _,.inl ⟨rfl,rfl⟩⟩
 ·exact (Zs (p:=⟨w.heap.size,j,none⟩) ((Zf (w.alloc (.cells #[.string ⟨#[]⟩,.int .i64 0,.int .i64 0,.int .i64 0,.int .i64 0,.slice none 0 0,.slice none 0 0] 42))).alloc _) (by simp)).trans (aa w j v hv)
 ·have h9:=aa (w.alloc (.cells #[.string ⟨#[]⟩,.int .i64 0,.int .i64 0,.int .i64 0,.int .i64 0,.slice none 0 0,.slice none 0 0] 42)) j v hv
  simpa using h9
 ·rw [((Zf (w.alloc (.cells #[.string ⟨#[]⟩,.int .i64 0,.int .i64 0,.int .i64 0,.int .i64 0,.slice none 0 0,.slice none 0 0] 42))).alloc _).facts.2.1 _ _ (by simp)]
  simp [go_sem]
end
end Go.Proofs.YtkneghkbgingdaaGreatDoor
/- The reference's reader of patterns: what lies where. -/
namespace Go.Proofs.YtkneghkbgingdaaGreatDoor
set_option maxRecDepth 100000
open Go.RowKit Go.ChangeShapes Go.WideShapes Go.Joins
def RwC (w:World) (K:Nat->Prop) (A:Option Addr) (n:Nat) (l:List Ro):Prop :=
 n<=maxLen/\∃xs:List Raw,Vec shRaw w A n xs/\(0<n->∀b off,A=some ⟨b,off,none⟩->K b)/\RosAt w K xs l/\∀x∈xs,x.n<=x.c
theorem RwC.rws {w:World} {K:Nat->Prop} {A:Option Addr} {n:Nat} {l:List Ro} (h:RwC w K A n l):Rws w K A n l:=by
 obtain ⟨h0,xs,h1,h2,h3, -⟩:=h
 exact ⟨h0,xs,h1,h2,h3⟩
theorem RwC.caps {w:World} {K:Nat->Prop} {A:Option Addr} {n:Nat} {l:List Ro} (h:RwC w K A n l):Caps w A n:=by
 obtain ⟨h0,xs,h1,h2,h3,h4⟩:=h
 exact ⟨xs,h1,h4⟩
theorem RwC.keep {w w':World} {K K':Nat->Prop} {A:Option Addr} {n:Nat} {l:List Ro} (h:RwC w K A n l) (hz:w.heap.size<=w'.heap.size) (hc:∀b,b<w.heap.size->K b->K' b/\∀o,w'.cell? ⟨b,o,none⟩=w.cell? ⟨b,o,none⟩):RwC w' K' A n l:=by
 obtain ⟨h0,xs,h1,h2,h3,h4⟩:=h
 refine ⟨h0,xs,h1.keepK h2 hz (fun b hb hk=>(hc b hb hk).2),fun hn b off e=>?_,h3.keep hz hc,h4⟩
 obtain ⟨b',off',e',hlt,_⟩:=h1.2 hn
 rw [e] at e'
 cases e'
 exact (hc b hlt (h2 hn b off e)).1
theorem RwC.ext {w w':World} {K:Nat->Prop} {A:Option Addr} {n:Nat} {l:List Ro} (h:RwC w K A n l) (hb:Ext w w'):RwC w' K A n l :=
 h.keep (Zl hb) fun b hlt hk=>⟨hk,fun o=>Zs (p:=⟨b,o,none⟩) hb hlt⟩
theorem RwC.mono {w:World} {K K':Nat->Prop} {A:Option Addr} {n:Nat} {l:List Ro} (h:RwC w K A n l) (hk:∀b,b<w.heap.size->K b->K' b):RwC w K' A n l :=
 h.keep (Zg _) fun b hlt hb=>⟨hk b hlt hb,fun _=>rfl⟩
theorem zn3 {w:World} {B k:Nat} {e:TypeId} {v:Value} {l:List Ro} (h:OwnQ w B e v k l) (hk:k<=1000000):∃A c,v = .slice A k c/\RwC w (fun b=>B<=b) A k l/\k<=c:=by
 obtain ⟨xs,h1,h2,h3⟩:=h
 obtain ⟨A,c,rfl,hv,hb⟩:=zaf h1
 exact ⟨A,c,rfl,⟨by unfold maxLen;omega,xs,hv,hb,h2.keep (Zg _) fun b _ hx=>⟨hx.1,fun _=>rfl⟩,h3⟩,zb2 h1⟩
def SeC (W:World) (B:Nat) (V2:Value) (x:RSec) (r:Sec):Prop:=x.nm=r.nm/\x.s=r.s/\RwC W (fun b=>B<=b/\some b≠V2.ownBlock) x.A x.n r.rows/\x.n<=x.c
def SecF (W:World) (B:Nat) (V2:Value) (se:List Sec):Prop:=∃xs:List RSec,xs.length=se.length/\OwnV shSec W B 59 V2 se.length xs/\∀k,k<se.length->SeC W B V2 (xs.getD k rsec0) (se.getD k sec0)
theorem SeC.ext {W W':World} {B:Nat} {V2:Value} {x:RSec} {r:Sec} (h:SeC W B V2 x r) (hb:Ext W W'):SeC W' B V2 x r:=⟨h.1,h.2.1,h.2.2.1.ext hb,h.2.2.2⟩
theorem SeC.set {W:World} {B:Nat} {V2:Value} {x:RSec} {r:Sec} (h:SeC W B V2 x r) {p:Addr} (hp:p.block<B) (u:Value):SeC (W.setCell p u) B V2 x r :=
 ⟨h.1,h.2.1,h.2.2.1.keep (by simp) fun b _ hb=>⟨hb,fun o=>Zj _ p ⟨b,o,none⟩ _ (by intro e;subst e;have:=hb.1;simp only at hp;omega)⟩,h.2.2.2⟩
theorem SecF.ext {W W':World} {B:Nat} {V2:Value} {se:List Sec} (h:SecF W B V2 se) (hb:Ext W W'):SecF W' B V2 se:=by
 obtain ⟨xs,h1,h2,h3⟩:=h
 exact ⟨xs,h1,h2.ext hb,fun k hk=>(h3 k hk).ext hb⟩
theorem SecF.set {W:World} {B:Nat} {V2:Value} {se:List Sec} (h:SecF W B V2 se) {p:Addr} (hp:p.block<B) (u:Value):SecF (W.setCell p u) B V2 se:=by
 obtain ⟨xs,h1,h2,h3⟩:=h
 exact ⟨xs,h1,h2.setb hp u,fun k hk=>(h3 k hk).set hp u⟩
theorem SecF.secs {W:World} {B:Nat} {V2:Value} {se:List Sec} (h:SecF W B V2 se) (hl:se.length<=1000000):∃A c,V2 = .slice A se.length c/\Secs W A se.length se/\se.length<=c/\SecCaps W A se.length:=by
 obtain ⟨xs,h1,h2,h3⟩:=h
 obtain ⟨A,c,rfl,hv⟩:=zav h2
 refine ⟨A,c,rfl,⟨by unfold maxLen;omega,xs,hv,h1,fun k hk=>⟨(h3 k hk).1,(h3 k hk).2.1,(h3 k hk).2.2.1.rws.any,(h3 k hk).2.2.2⟩⟩,zb2 h2,xs,hv,fun x hx=>?_⟩
 obtain ⟨k,hk,rfl⟩:=List.mem_iff_getElem.1 hx
 have h9:=(h3 k (by omega)).2.2.1.caps
 rw [Zc,Zd hk] at h9
 exact h9
theorem SecF.add {wx wy:World} {B:Nat} {V2 V2':Value} {se:List Sec} {nm:List UInt8} {s:Int} {A:Option Addr} {n c:Nat} {rows:List Ro} {xs:List RSec} (h1:xs.length=se.length) (h3:∀k,k<se.length->SeC wx B V2 (xs.getD k rsec0) (se.getD k sec0))
  (hr:RwC wx (fun b=>B<=b/\some b≠V2.ownBlock) A n rows) (hc:n<=c) (ho:OwnV shSec wy B 59 V2' (se.length+1) (xs++[⟨nm,s,A,n,c⟩])) (hg:wx.grownBy wy V2.ownBlock) (hv:V2'.ownBlock=V2.ownBlock∨V2'.ownBlock=some wx.heap.size) :
  SecF wy B V2' (se++[⟨nm,s,rows⟩]):=by
 have key:∀ {A:Option Addr} {n:Nat} {rows:List Ro},RwC wx (fun b=>B<=b/\some b≠V2.ownBlock) A n rows->RwC wy (fun b=>B<=b/\some b≠V2'.ownBlock) A n rows:=fun h=>by
  refine h.keep (But.size hg) fun b hlt hb2=>⟨⟨hb2.1,?_⟩,fun o=>But.cell (p:=⟨b,o,none⟩) hg hlt hb2.2⟩
  rcases hv with hv | hv
  ·rw [hv];exact hb2.2
  ·rw [hv];intro e;cases e;omega
 refine ⟨xs++[⟨nm,s,A,n,c⟩],by simp [h1],by rw [Zb,Zv];exact ho,fun k hk=>?_⟩
 rw [Zb,Zv] at hk
 rcases Z0 k se.length with hlt | hge
 ·have e1:(xs++[(⟨nm,s,A,n,c⟩:RSec)]).getD k rsec0=xs.getD k rsec0:=by
   rw [Zc,ZN (by omega),<-Zc]
  have e2:(se++[(⟨nm,s,rows⟩:Sec)]).getD k sec0=se.getD k sec0:=by
   rw [Zc,ZN hlt,<-Zc]
  rw [e1,e2]
  obtain ⟨a1,a2,a3,a4⟩:=h3 k hlt
  exact ⟨a1,a2,key a3,a4⟩
 ·obtain rfl:k=se.length:=by omega
  have e1:(xs++[(⟨nm,s,A,n,c⟩:RSec)]).getD se.length rsec0=⟨nm,s,A,n,c⟩:=by rw [<-h1];simp
  have e2:(se++[(⟨nm,s,rows⟩:Sec)]).getD se.length sec0=⟨nm,s,rows⟩:=by simp
  rw [e1,e2]
  exact ⟨rfl,rfl,key hr,hc⟩
structure PR (gp:Nat) (wA w0 W1 wr:World) (p:PSt) (V1 V2:Value):Prop where
 e0:Ext wA w0
 e1:Ext w0 W1
 e2:Ext W1 wr
 lt:wA.heap.size<=gp/\gp<w0.heap.size
 pb:CellsAt w0 gp (pcells p V1 V2)
 z1:∀o,w0.frozen? ⟨gp,o,none⟩=false
 st:OwnV shStf W1 w0.heap.size 61 V1 p.st.length p.st
 se:SecF wr W1.heap.size V2 p.se
 nn:p.se=[]->V2=nilV
section
variable {gp:Nat} {wA w0 W1 wr wx:World} {p:PSt} {V1 V2 V1' V2':Value}
theorem PR.ext (h:PR gp wA w0 W1 wr p V1 V2) (hb:Ext wr wx):PR gp wA w0 W1 wx p V1 V2:={ h with e2:=h.e2.trans hb,se:=h.se.ext hb }
theorem PR.all (h:PR gp wA w0 W1 wr p V1 V2):Ext wA wr:=h.e0.trans (h.e1.trans h.e2)
theorem PR.b0 (h:PR gp wA w0 W1 wr p V1 V2):Ext w0 wr:=h.e1.trans h.e2
theorem PR.box (h:PR gp wA w0 W1 wr p V1 V2) (hb:Ext w0 wx):CellsAt wx gp (pcells p V1 V2)/\(∀o,wx.frozen? ⟨gp,o,none⟩=false)/\gp<wx.heap.size :=
 ⟨h.pb.ext hb h.lt.2,fun o=>(hb.facts.2.1 _ _ h.lt.2).trans (h.z1 o),hb.facts.2.2 _ h.lt.2⟩
theorem PR.addStf (h:PR gp wA w0 W1 wr p V1 V2) (hn:p.se=[]) {x:Stf} (ho:OwnV shStf wx w0.heap.size 61 V1' (p.st.length+1) (p.st++[x])) (hx:Ext w0 wx) :
  PR gp wA (w0.setCell ⟨gp,5,none⟩ V1') (wx.setCell ⟨gp,5,none⟩ V1') (wx.setCell ⟨gp,5,none⟩ V1') { p with st:=p.st++[x] } V1' V2:=by
 obtain ⟨l0,l2⟩:=h.lt
 refine ⟨Zr h.e0 (by simp only;omega) _,hx.setq (by simpa using l2) _,Zf _,⟨l0,by simpa using l2⟩,?_,fun o=>(Zw _ _ _ _).trans (h.z1 o),?_,?_,h.nn⟩
 ·have h9:=h.pb.set (j:=5) (by simp [pcells]) V1'
  simpa [pcells] using h9
 ·rw [World.size_setCell,Zb,Zv]
  exact ho.setb (by simpa using l2) V1'
 ·rw [h.nn hn]
  show SecF _ _ _ p.se
  rw [hn]
  exact ⟨[],rfl,OwnV.nil _ _ _ _,fun k hk=>absurd hk (by simp)⟩
theorem PR.addSec (h:PR gp wA w0 W1 wr p V1 V2) {nm:List UInt8} {s:Int} {rows:List Ro} {wy:World} (hf:SecF wy W1.heap.size V2' (p.se++[⟨nm,s,rows⟩])) (hx:Ext W1 wy) :
  PR gp wA (w0.setCell ⟨gp,6,none⟩ V2') (W1.setCell ⟨gp,6,none⟩ V2') (wy.setCell ⟨gp,6,none⟩ V2') { p with se:=p.se++[⟨nm,s,rows⟩] } V1 V2':=by
 obtain ⟨l0,l2⟩:=h.lt
 have s1:=Zl h.e1
 refine ⟨Zr h.e0 (by simp only;omega) _,h.e1.setq (by simpa using l2) _,hx.setq (by simp only;omega) _,⟨l0,by simpa using l2⟩,?_,fun o=>(Zw _ _ _ _).trans (h.z1 o),?_,?_,fun e=>by simp at e⟩
 ·have h9:=h.pb.set (j:=6) (by simp [pcells]) V2'
  simpa [pcells] using h9
 ·rw [World.size_setCell]
  exact h.st.setb (by simpa using l2) V2'
 ·rw [World.size_setCell]
  exact hf.set (by simp only;omega) V2'
structure PV (g B:Nat) (W1 wr:World) (p:PSt) (V1 V2:Value):Prop where
 e2:Ext W1 wr
 st:OwnV shStf W1 B 61 V1 p.st.length p.st
 se:SecF wr W1.heap.size V2 p.se
 lt:g<B
 le:B<=W1.heap.size
theorem PR.pv (h:PR gp wA w0 W1 wr p V1 V2) {g:Nat} (hg:g<wA.heap.size):PV g w0.heap.size W1 wr p V1 V2:=⟨h.e2,h.st,h.se,by have:=h.lt;omega,Zl h.e1⟩
theorem PV.set {g B:Nat} (h:PV g B W1 wr p V1 V2) (j:Nat) (u:Value):PV g B (W1.setCell ⟨g,j,none⟩ u) (wr.setCell ⟨g,j,none⟩ u) p V1 V2:=by
 have h1:=h.lt
 have h2:=h.le
 exact ⟨h.e2.setq (by simp only;omega) _,h.st.setb (by simpa using h1) _,by rw [World.size_setCell];exact h.se.set (by simp only;omega) _,h1,by simpa using h2⟩
theorem PV.stfs {g B:Nat} (h:PV g B W1 wr p V1 V2):∃A c,V1 = .slice A p.st.length c/\Vec shStf wr A p.st.length p.st:=by
 obtain ⟨A,c,rfl,hv⟩:=zav h.st
 exact ⟨A,c,rfl,hv.ext h.e2⟩
end

end Go.Proofs.YtkneghkbgingdaaGreatDoor
