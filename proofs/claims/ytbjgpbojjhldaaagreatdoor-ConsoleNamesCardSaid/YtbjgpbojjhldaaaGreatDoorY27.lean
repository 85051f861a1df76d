/- hang.Hangs. -/
import Derived.Test.YtbjgpbojjhldaaaGreatDoorY26
import Derived.Deep.MidRow
set_option maxHeartbeats 16000000
namespace Go.Proofs.YtbjgpbojjhldaaaGreatDoor
set_option maxRecDepth 100000
open Go.RowKit Go.ChangeShapes Go.WideShapes Go.Joins
theorem zq9 {l best:List Nat} (h:l.length<best.length∨(l.length=best.length/\l.headD 0<best.headD 0)):lessS l best=true:=by
 rw [lessS]
 rcases h with h | h
 ·simp [h]
 ·simp only [decide_eq_true h.1,decide_eq_true h.2,Bool.and_true,Bool.or_true]
theorem zq8 {l best:List Nat} (h:¬l.length<best.length) (h2:l.length=best.length->¬l.headD 0<best.headD 0):lessS l best=false:=by
 rw [lessS,ZU h,Bool.false_or]
 by_cases e:l.length=best.length
 ·rw [ZU (h2 e),Bool.and_false]
 ·rw [ZU e,Bool.false_and]
theorem zfl {w:World} {A:Option Addr} {m:Nat} {l:List Nat} (h:Ints w A m (zL l)) (hm:0<m):∃b off,A=some ⟨b,off,none⟩/\w.cell? ⟨b,off,none⟩=some (.int .i64 (l.headD 0:Nat)):=by
 obtain ⟨b,off,e,_,hc⟩:=h.2 hm
 have h1:=hc 0 hm
 have hl:l.length=m:=by rw [<-zbR];exact h.1
 rw [Nat.add_zero,zr3 (by omega)] at h1
 refine ⟨b,off,e,?_⟩
 rw [h1]
 cases l with
 | nil=>simp at hl;omega
 | cons x l=>rfl
theorem zgv (g:Gd) (hg:okG g) (V:Value) (A:Option Addr) (c n:Nat) (hn:g.w+g.h=n) (w:World) (hA:Adj w A n (upOf g)) :
  Calls Tryz.prog 101 #[.agg #[V,.slice A n c]] w fun e w'=>∃A' c',e = .returned (.slice A' (firstV g).length c')/\Ext w w':=by
 have h1:=hg.1
 have h2:=hg.2.1
 have h3:=hg.2.2.1
 have h4:=hg.2.2.2.1
 have aK:=Za (fun (k:Nat) (hk:k<n) (w':World) (h:Ext w w')=>zeG n c k A (upOf g) (by omega) hk (fun a ha b hb=>by have:=zgt a (by omega) b hb;omega) (fun a=>by have:=znZ hg a;omega) w' (hA.ext h))
 have aO:=Za (fun (c:Nat) (A:Option Addr) (l:List Int) (w':World) (h:Ints w' A n l)=>zgx n c A l (by omega) w' h)
 have aq:=Za (fun k=>zcx g k)
 have aI:=Za (fun k (h:k<n)=>zhl (g:=g) (k:=k) (by omega))
 have ao:=Za (fun k=>zjG g k)
 have aL:=Za (fun k=>zfv (upOf g) n k)
 have aN:=Za (fun k (h:k<n)=>zeh (next:=upOf g) (n:=n) h (fun a ha b hb=>by have:=zgt a (by omega) b hb;omega))
 have aM:=Za (fun k=>znl (upOf g) n k)
 have ai:=Za (zfg g)
 rw [hn] at aq ao ai
 have hn1:n<=128:=by omega
 obtain ⟨F,hF⟩:∃F,firstV g=F:=⟨_,rfl⟩
 rw [hF] at ai ⊢
 clear hA hF hn h1 h2 h3 h4
 go_enter Tryz.func101,Tryz.ntmps101
 go_wp2_with fail
 obtain ⟨WB,ah⟩:∃WB,w.alloc (.cells #[V,.slice A n c] 153)=WB:=⟨_,rfl⟩
 have ar:=Za (show Ext w WB by rw [<-ah];exact (Ze w).alloc _)
 have am:=Za (show WB.heap[w.heap.size]?=some (.cells #[V,.slice A n c] 153 (0,0)) by rw [<-ah];exact heap_alloc_new w _)
 rw [ah]
 clear ah
 go_loopw [3,9] (fun u kk wr=>∃(Vb:Value) (k c:Nat) (A:Option Addr),Vb=u/\kk = .int .i64 k/\k<=n/\Vb = .slice A (firstTo g k).length c/\(k=0->Vb = .slice none 0 0)/\Hid (Ints wr A (firstTo g k).length (zL (firstTo g k)))/\Hid (Ext WB wr)) (fun _ kk _=>n-(intOf kk).toNat)
 case atStart=>exact ⟨_,0,0,none,rfl,rfl,ZK _,rfl,fun _=>rfl,Za (Ints.none_ _ _),Za (Ze _)⟩
 case round =>
  obtain ⟨Vb,k,cb,Ab,rfl,rfl,hk,aR,au,HI,HE⟩:=hrel
  subst aR
  by_cases hkl:k<n
  ·have q1:(k:Int)<(n:Int):=by omega
   have ax:=(HE.out.block _ (Zh.1 am.out).1).trans am.out
   have hb1:wr.cell? ⟨w.heap.size,1,none⟩=some (.slice A n c):=by rw [cell_of_row wr _ 1 _ _ (0,0) ax];rfl
   have af:=Za au
   clear au ax
   have aJ:=Za (fun w' (h:Ext wr w')=>aK.out k hkl w' (ar.out.trans (HE.out.trans h)))
   go_upto_region 6 with (first
    | (go_at_call 138;((with_reducible refine (aJ.out _ zx).mono ?_);rintro e w3 ⟨g3,c3,rfl,az,aE⟩;have aH:=Za az;have aP:=Za aE;clear az aE))
    | (go_at_call 137;((with_reducible refine (aO.out _ _ _ _ aH.out).mono ?_);rintro e w4 ⟨v4,rfl,aD,aF⟩;obtain ⟨A4,c4,rfl,aA⟩:=zaB aD;have ae:=Za aA;have ac:=Za (aP.out.trans aF);clear aD aA aF)))
   have aa:=Za (aM.out k)
   obtain ⟨l,hl⟩:∃l,whP (farV (upOf g) n k)=l:=⟨_,rfl⟩
   rw [hl] at ae aa ⊢
   have HN:=Za (aq.out k)
   rw [aa.out] at HN
   have aC:0<l.length:=by
    have h9:=aN.out k hkl
    rw [aa.out] at h9
    exact List.length_pos_of_mem h9
   have aU:l.length<=n:=by
    have h9:=aL.out k
    rw [aa.out] at h9
    exact h9
   have hni:∀W,(binOp .eql 51 (.slice none 0 0) (.slice none 0 0)).run Tryz.prog W = .ok (.bool true) W:=fun _=>rfl
   have hso:∀W b o n c,(binOp .eql 51 (.slice (some ⟨b,o,none⟩) n c) (.slice none 0 0)).run Tryz.prog W = .ok (.bool false) W:=fun _ _ _ _ _=>rfl
   obtain ⟨b4,o4,rfl,ay⟩:=zfl ae.out aC
   have al:=Za (ao.out k)
   obtain ⟨bst,hbst⟩:∃bst,firstTo g k=bst:=⟨_,rfl⟩
   rw [hbst] at HN af HI al ⊢
   have HBS:=Za hbst
   clear hl hbst hb1
   rcases Nat.eq_zero_or_pos k with h0 | h0
   ·have hv:=af.out h0
    simp only [Value.slice.injEq] at hv
    obtain ⟨aQ,aB,aT⟩:=hv
    have av:bst=[]:=Zz aB
    have HB:=Za (show firstTo g (k+1)=l by rw [HN.out,if_pos (.inl av)])
    subst aQ aT av
    clear af ay aB HN
    simp only [List.length_nil]
    go_wp2_with fail
    go_quiet (fail)
    go_wp2_with fail
    go_roundw
    case rel=>exact ⟨_,k+1,c4,some ⟨b4,o4,none⟩,rfl,by go_num,by omega,by rw [HB.out],fun h=>absurd h (Nat.succ_ne_zero k),by rw [HB.out];exact Za (Ints.ext ae.out ((Ze w4).drewN nq)),Za (HE.out.trans (ac.out.drewN nq))⟩
    case measure=>simp [intOf];omega
   ·have hne:bst≠[]:=by
     obtain ⟨k',rfl⟩:∃k',k=k'+1:=⟨k-1,by omega⟩
     rw [<-HBS.out]
     exact aI.out k' (by omega)
    have aw:0<bst.length:=List.length_pos_iff.2 hne
    obtain ⟨bb,ob,rfl,ad⟩:=zfl HI.out aw
    have ak:w4.cell? ⟨bb,ob,none⟩=some (.int .i64 (bst.headD 0:Nat)):=(Zl (p:=⟨bb,ob,none⟩) ac.out (Zn wr _ ad)).trans ad
    have ap:=Za hne
    have aS:=al.out
    clear af ad hne
    obtain ⟨x,hx⟩:∃x,l.headD 0=x:=⟨_,rfl⟩
    obtain ⟨y,hy⟩:∃y,bst.headD 0=y:=⟨_,rfl⟩
    rw [hx] at ay
    rw [hy] at ak
    obtain ⟨m,hm⟩:∃m,l.length=m:=⟨_,rfl⟩
    obtain ⟨mb,hmb⟩:∃mb,bst.length=mb:=⟨_,rfl⟩
    have ag:=Za (show (m<mb∨(m=mb/\x<y)->lessS l bst=true)/\(¬m<mb->(m=mb->¬x<y)->lessS l bst=false) by
     rw [<-hm,<-hmb,<-hx,<-hy]
     exact ⟨zq9,zq8⟩)
    have HT:=Za (show lessS l bst=true->firstTo g (k+1)=l from fun h=>by rw [HN.out,if_pos (.inr h)])
    have HF:=Za (show lessS l bst=false->firstTo g (k+1)=bst from fun h=>by rw [HN.out,if_neg (by rw [h];simp [ap.out])])
    have ab:=Za (show l.length=m/\bst.length=mb from ⟨hm,hmb⟩)
    rw [hm] at aC aU ae
    rw [hmb] at aw aS HI
    rw [hm,hmb]
    clear hx hy hm hmb HN ap
    have z0:(0:Int)<(m:Int):=by omega
    have z1:(0:Int)<(mb:Int):=by omega
    by_cases c1:m<mb
    ·have HB:=Za (HT.out (ag.out.1 (.inl c1)))
     have d1:decide ((m:Int)<(mb:Int))=true:=by simp;omega
     go_wp2_with fail
     go_quiet (fail)
     go_wp2_with fail
     go_roundw
     case rel=>exact ⟨_,k+1,c4,some ⟨b4,o4,none⟩,rfl,by go_num,by omega,by rw [HB.out,ab.out.1],fun h=>absurd h (Nat.succ_ne_zero k),by rw [HB.out,ab.out.1];exact Za (Ints.ext ae.out ((Ze w4).drewN nq)),Za (HE.out.trans (ac.out.drewN nq))⟩
     case measure=>simp [intOf];omega
    ·have d1:decide ((m:Int)<(mb:Int))=false:=by simp;omega
     by_cases c2:m=mb
     ·have d2:((m:Int)==(mb:Int))=true:=by simp;omega
      by_cases c3:x<y
      ·have HB:=Za (HT.out (ag.out.1 (.inr ⟨c2,c3⟩)))
       have d3:decide ((x:Int)<(y:Int))=true:=by simp;omega
       have aG:=Za c2
       clear c2
       go_wp2_with fail
       go_quiet (fail)
       go_wp2_with fail
       go_roundw
       case rel=>exact ⟨_,k+1,c4,some ⟨b4,o4,none⟩,rfl,by go_num,by omega,by rw [HB.out,ab.out.1],fun h=>absurd h (Nat.succ_ne_zero k),by rw [HB.out,ab.out.1];exact Za (Ints.ext ae.out ((Ze w4).drewN nq)),Za (HE.out.trans (ac.out.drewN nq))⟩
       case measure=>simp [intOf];omega
      ·have HB:=Za (HF.out (ag.out.2 c1 (fun _=>c3)))
       have d3:decide ((x:Int)<(y:Int))=false:=by simp;omega
       have aG:=Za c2
       clear c2
       go_wp2_with fail
       go_quiet (fail)
       go_wp2_with fail
       go_roundw
       case rel=>exact ⟨_,k+1,cb,some ⟨bb,ob,none⟩,rfl,by go_num,by omega,by rw [HB.out,ab.out.2],fun h=>absurd h (Nat.succ_ne_zero k),by rw [HB.out,ab.out.2];exact Za (Ints.ext HI.out (ac.out.drewN nq)),Za (HE.out.trans (ac.out.drewN nq))⟩
       case measure=>simp [intOf];omega
     ·have HB:=Za (HF.out (ag.out.2 c1 (fun h=>absurd h c2)))
      have d2:((m:Int)==(mb:Int))=false:=by simp;omega
      go_wp2_with fail
      go_quiet (fail)
      go_wp2_with fail
      go_roundw
      case rel=>exact ⟨_,k+1,cb,some ⟨bb,ob,none⟩,rfl,by go_num,by omega,by rw [HB.out,ab.out.2],fun h=>absurd h (Nat.succ_ne_zero k),by rw [HB.out,ab.out.2];exact Za (Ints.ext HI.out (ac.out.drewN nq)),Za (HE.out.trans (ac.out.drewN nq))⟩
      case measure=>simp [intOf];omega
  ·obtain rfl:k=n:=by omega
   have aj:=Za (show firstTo g k=F from ai.out)
   go_wp2_with fail
   go_ret
   rw [<-aj.out]
   exact ⟨_,_,rfl,ar.out.trans HE.out⟩
def ApR (g:Gd) (w:World) (e:Ending) (w':World):Prop:=∃A m c,e = .returned (.tuple #[.slice A m c,.int .i64 0])/\Ext w w'/\decide (m=0)=hangV g
theorem zgu (b off c:Nat) (g:Gd) (hg:okG g) (w:World) (hv:GridAt w (some ⟨b,off,none⟩) g) :
  Calls Tryz.prog 61 #[gridV (some ⟨b,off,none⟩) c g] w (ApR g w):=by
 have ac:=Za (fun w'=>za1 (some ⟨b,off,none⟩) c g hg w')
 have ab:=Za (fun w' (h:Ext w w')=>zj3 b off c g hg w' (hv.ext h))
 have aa:=Za (fun V A c w' h=>zgv g hg V A c (g.w+g.h) rfl w' h)
 have ad:=Za (Tb.new w (.int .i64 (g.w:Int)) (.int .i64 (g.h:Int)) (.slice (some ⟨b,off,none⟩) g.b.length c) 54)
 have hne:0<(firstV g).length:=by
  have h9:=zhl (g:=g) (k:=g.w+g.h-1) (by have:=hg.1;omega)
  rw [show g.w+g.h-1+1=g.w+g.h by have:=hg.1;omega,zfg] at h9
  exact List.length_pos_iff.2 h9
 have HV:=Za (show hangV g=decide ((firstV g).length=g.w+g.h) from rfl)
 have aq:=hg.2.1
 have ar:=hg.2.2.2.1
 obtain ⟨z,hz⟩:∃z,hangV g=z:=⟨_,rfl⟩
 have HZ:=Za hz
 rw [hz] at HV
 unfold gridV at ac ab ⊢
 obtain ⟨m,hm⟩:∃m,(firstV g).length=m:=⟨_,rfl⟩
 rw [hm] at hne aa HV
 obtain ⟨W,hW⟩:∃W,g.w=W:=⟨_,rfl⟩
 obtain ⟨H,hH⟩:∃H,g.h=H:=⟨_,rfl⟩
 rw [hW] at aq ac ab aa ad HV ⊢
 rw [hH] at ar ac ab aa ad HV ⊢
 obtain ⟨n,hn⟩:∃n,W+H=n:=⟨_,rfl⟩
 have e1:(W:Int)+(H:Int)=(n:Int):=by omega
 have i1:=Zj (n:Int) (by omega)
 rw [hn] at ab aa HV
 have HNN:=Za hn
 clear hz hm hW hH hv hg hn
 have hd:((m:Int)==(n:Int))=z:=by
  rw [HV.out]
  by_cases e:m=n
  ·subst e;simp
  ·rw [ZU e,ZC]
   omega
 have ao:=Za hne
 cases z
 all_goals
  go_enter Tryz.func61,Tryz.ntmps61
  go_wp2_with (first
   | (go_at_call 59;((with_reducible refine (ac.out _).mono ?_);rintro e w1 ⟨rfl,ae⟩;have ai:=Za (show Ext w w1 from Zm zx ae);have ah:=Za (ad.out.ext ae);obtain ⟨⟨d0,d1,d2⟩, -⟩:=ah.out;clear ae))
   | (go_at_call 100;((with_reducible refine (ab.out _ ai.out).mono ?_);rintro e w2 ⟨V2,A2,c2,rfl,ak,af⟩;have ap:=Za (ai.out.trans af);have al:=Za ak;have am:=Za (ah.out.ext af);clear af ak d0 d1 d2))
   | (go_at_call 101;((with_reducible refine (aa.out _ _ _ _ al.out).mono ?_);rintro e w3 ⟨A3,c3,rfl,ag⟩;have aj:=Za (ap.out.trans ag);obtain ⟨⟨d0,d1,d2⟩, -⟩:=am.out.ext ag;clear ag)))
 ·go_ret2
  exact ⟨A3,m,c3,rfl,aj.out,by rw [HZ.out];have:=ao.out;simp;omega⟩
 ·go_ret2
  exact ⟨none,0,0,rfl,aj.out,by rw [HZ.out];rfl⟩
theorem zgw (b off c:Nat) (g:Gd) (hg:okG g) (w:World) (hv:GridAt w (some ⟨b,off,none⟩) g) :
  Calls Tryz.prog 32 #[gridV (some ⟨b,off,none⟩) c g] w fun e w'=>e = .returned (.tuple #[.bool (hangV g),.int .i64 0])/\Ext w w':=by
 have HA:=Za (fun w' h=>zgu b off c g hg w' (hv.ext h))
 obtain ⟨z,hz⟩:∃z,hangV g=z:=⟨_,rfl⟩
 have HZ:=Za hz
 rw [hz]
 clear hz hv hg
 unfold gridV at HA ⊢
 go_enter Tryz.func32,Tryz.ntmps32
 go_wp2_with (go_at_call 61;((with_reducible refine (HA.out _ zx).mono ?_);rintro e w1 ⟨A1,m,c1,rfl,aa,hm⟩;have hm2:((m:Int)==0)=z:=(by rw [<-HZ.out,<-hm];by_cases e:m=0 <;> simp [e]);have ab:=Za (show Ext w w1 from Zm zx aa);clear hm aa))
 go_ret2
 exact ⟨rfl,ab.out⟩
end Go.Proofs.YtbjgpbojjhldaaaGreatDoor
/- Lines of a grid as they lie in memory,and the different ones,in plain Lean. -/
namespace Go.Proofs.YtbjgpbojjhldaaaGreatDoor
set_option maxRecDepth 100000
def padB (r:List Bool):List Bool:=(r++List.replicate 64 false).take 64
theorem zbs (r:List Bool):(padB r).length=64:=by simp [padB]
theorem zgN {r:List Bool} (h:r.length<=64):padB r=r++List.replicate (64-r.length) false:=by
 rw [padB,List.take_append,Zs h,List.take_replicate,Nat.min_eq_left (by omega)]
theorem zne {a b:List Bool} (h:a.length<=64) (hl:a.length=b.length) (e:padB a=padB b):a=b:=by
 rw [zgN h,zgN (by omega),<-hl] at e
 exact (List.append_inj e hl).1
def eqL (a b:List Bool):Bool:=(padB a==padB b) && ((a.length:Int)==(b.length:Int))
theorem zpd {a b:List Bool} (h:a.length<=64) (hl:a.length=b.length):eqL a b=decide (a=b):=by
 rw [eqL,hl]
 by_cases e:a=b
 ·subst e;simp
 ·have h2:¬padB a=padB b:=fun h3=>e (zne h hl h3)
  simp [h2,e]
theorem zmK {l:List Bool} {r S:List (List Bool)} (h:l∈S):kindsV (l::r) S=kindsV r S:=by rw [kindsV,if_pos h]
theorem zkd {l:List Bool} {r S:List (List Bool)} (h:l ∉ S):kindsV (l::r) S=kindsV r (S++[l]):=by rw [kindsV,if_neg h]
theorem zcj (g:Gd):(rowsG g).length=g.h:=by simp [rowsG]
theorem zgV {g:Gd} {y:Nat} (h:y<g.h):(rowsG g)[y]?=some (g.row y):=by simp [rowsG,h]
theorem zkX {g:Gd} {y:Nat} (h:y<g.h):(rowsG g).drop y=g.row y::(rowsG g).drop (y+1):=by
 rw [ZL (by rw [zcj];exact h)]
 congr 1
 have:=zgV h
 rw [Zf (by rw [zcj];exact h)] at this
 exact Option.some.inj this
theorem ziD {S:List (List Bool)} {l:List Bool} (h:∀j,j<S.length->S.getD j []≠l):l ∉ S:=by
 exact zsz
theorem zkp {S:List (List Bool)} {l:List Bool} {j:Nat} (hj:j<S.length) (h:S.getD j []=l):l∈S:=by
 rw [Zd,Zf hj] at h
 subst h
 exact List.getElem_mem hj
end Go.Proofs.YtbjgpbojjhldaaaGreatDoor
/- Lines of 64 cells in memory. -/
namespace Go.Proofs.YtbjgpbojjhldaaaGreatDoor
set_option maxRecDepth 100000
open Go.RowKit Go.ChangeShapes Go.WideShapes Go.Joins
def lnC (r:List Bool):List Value:=(padB r).map Value.bool++[.int .i64 (r.length:Int)]
theorem za2 (r:List Bool):(lnC r).length=65:=by simp [lnC,zbs]
def shLn:Shp (List Bool) where
 size:=65
 cells:=lnC
 pos:=by omega
 len:=za2
 one x u h:=by
  rcases ZQ.1 h with h | h
  ·obtain ⟨b,_,rfl⟩:=List.mem_map.1 h
   rfl
  ·simp at h
   subst h
   rfl
theorem zfn:(Tryz.prog.info? 200).map (fun i=>(i.zero,i.size,i.bytes))=some (some (.agg (lnC []).toArray),65,72):=by kernel_rfl
theorem ziA (n:Nat):(madeCells (Value.agg (lnC []).toArray).cells (n*65)).toList=(List.replicate n ([]:List Bool)).flatMap shLn.cells:=by
 apply List.ext_getElem?
 intro j
 have hc:(Value.agg (lnC []).toArray).cells=(lnC []).toArray:=rfl
 by_cases hj:j<n*65
 ·have h1:j / 65<n:=by omega
  have h2:j % 65<65:=Nat.mod_lt _ (by omega)
  have e:j=j / 65*shLn.size+j % 65:=by show j=j / 65*65+j % 65;omega
  rw [hc]
  have hL:((List.replicate n ([]:List Bool)).flatMap shLn.cells)[j]?=(lnC [])[j % 65]?:=by
   rw [e,zb6 _ _ _ (by exact h2),<-e,List.getElem?_replicate,if_pos h1]
   rfl
  rw [hL,Array.getElem?_toList,madeCells]
  simp only [List.size_toArray,za2,Array.getElem?_map,Array.getElem?_range,hj,if_true,Option.map_some,getElem!_def,List.getElem?_toArray]
  rw [Zf (by rw [za2];exact h2)]
 ·rw [List.getElem?_eq_none (by simp [size_madeCells];omega),List.getElem?_eq_none (by rw [zaU];simp [shLn];omega)]
theorem zea {w:World} {b off n:Nat} {L:List (List Bool)} (h:Vec shLn w (some ⟨b,off,none⟩) n L) {k:Nat} {r:List Bool} (hr:L[k]?=some r):w.rangeAt b (off+k*65) (lnC r):=by
 have hk:k<n:=by rw [<-h.1];exact (ZB.1 hr).1
 obtain ⟨b',off',e,_,hc⟩:=h.2 (by omega)
 cases e
 intro j v hv
 rw [Nat.add_assoc]
 exact hc k r hr j v hv
theorem zeY:Tryz.prog.underlying 200=some (.struct (Tryz.prog.fieldsOf 200)):=by kernel_rfl
theorem zco:(Tryz.prog.info? 200).map (·.size)=some 65:=by kernel_rfl
theorem zlb:(Tryz.prog.info? 4).map (·.size)=some 1:=by kernel_rfl
theorem zfB (d:Nat) (a b:List Bool) (ha:a.length=64) (hb:b.length=64) (w:World):(Op.equalIn (d+2) 198 (.agg (a.map Value.bool).toArray) (.agg (b.map Value.bool).toArray)).run Tryz.prog w = .ok (a==b) w:=by
 rw [Op.equalIn]
 have hs:∀w,(sizeOf 4).run Tryz.prog w = .ok 1 w:=fun w=>by kernel_rfl
 have hg:∀w,(isAgg 4).run Tryz.prog w = .ok false w:=fun w=>by kernel_rfl
 have hp:∀(l:List Bool) (i:Nat) (hi:i<l.length) (w:World),(part 4 (l.map Value.bool).toArray (i*1)).run Tryz.prog w = .ok (.bool l[i]) w:=fun l i hi w=>by
  simp [part,hg,Result.andThen,hi]
 have key:∀(k i:Nat),i+k=64->(forIn (m:=Sem) (List.range' i k) ((none:Option Bool),()) fun i __s=>do
        let __do_lift <-part 4 (a.map Value.bool).toArray (i*1)
        let __do_lift_1 <-part 4 (b.map Value.bool).toArray (i*1)
        let __do_lift <-Op.equalIn (d+1) 4 __do_lift __do_lift_1
        if (!__do_lift)=true then pure (ForInStep.done (some false,()))
         else pure (ForInStep.yield (none,()))).run Tryz.prog w = .ok (if a.drop i=b.drop i then (none,()) else (some false,())) w:=by
  intro k
  induction k with
  | zero =>
   intro i hi
   rw [ZE (by omega),ZE (by omega)]
   simp [List.range']
  | succ k ih =>
   intro i hi
   rw [List.range'_succ,List.forIn_cons,Sem.run_bind,Sem.run_bind,hp a i (by omega),Result.andThen_ok,Sem.run_bind,hp b i (by omega),Result.andThen_ok,Sem.run_bind,run_equalIn_bool' w d _ _ _ Tryz.underlying4,Result.andThen_ok]
   rw [ZL (show i<a.length by omega),ZL (show i<b.length by omega)]
   by_cases h:a[i]=b[i]
   ·rw [h]
    simp only [beq_self_eq_true,Bool.not_true,Bool.false_eq_true,if_false,Sem.run_pure,Result.andThen_ok]
    rw [ih (i+1) (by omega)]
    simp only [List.cons.injEq,true_and]
   ·have h2:(a[i]==b[i])=false:=by simpa using h
    simp only [List.cons.injEq,h,false_and,if_false,h2]
    simp
 simp only [Sem.run_bind,run_underlying Tryz.underlying198,Result.andThen_ok,hs,Std.Legacy.Range.forIn_eq_forIn_range',Std.Legacy.Range.size]
 have k0:=key 64 0 (by omega)
 simp only [Nat.sub_zero,Nat.add_sub_cancel,Nat.div_one]
 rw [k0]
 by_cases h:a=b
 ·subst h
  simp
 ·simp [h]
theorem zef (r:List Bool) (hr:r.length=64) (u:Value) (w:World):(part 198 (r.map Value.bool++[u]).toArray 0).run Tryz.prog w = .ok (.agg (r.map Value.bool).toArray) w:=by
 have hs:∀w,(sizeOf 198).run Tryz.prog w = .ok 64 w:=fun w=>by kernel_rfl
 have hg:∀w,(isAgg 198).run Tryz.prog w = .ok true w:=fun w=>by kernel_rfl
 simp [part,hg,hs,Result.andThen]
 rw [<-hr]
 simp
theorem zhI (r:List Bool) (hr:r.length=64) (u:Value) (w:World):(part 3 (r.map Value.bool++[u]).toArray 64).run Tryz.prog w = .ok u w:=by
 have hg:∀w,(isAgg 3).run Tryz.prog w = .ok false w:=fun w=>by kernel_rfl
 have h1:(r.map Value.bool++[u])[64]?=some u:=by rw [ZN (by simp;omega)];simp [hr]
 simp [part,hg,Result.andThen,h1]
theorem zfD (a b:List Bool) (w:World):(binOp .neq 200 (.agg (lnC a).toArray) (.agg (lnC b).toArray)).run Tryz.prog w = .ok (.bool (!(eqL a b))) w:=by
 have hu:Tryz.prog.underlying 200=some (.struct (Tryz.prog.fieldsOf 200)):=by kernel_rfl
 have hp:Tryz.prog.stoodInHeld 200=false:=by kernel_rfl
 have c1:=zfB 9997 (padB a) (padB b) (zbs a) (zbs b) w
 have c2:=run_equalIn_int (P:=Tryz.prog) w 9998 3 .i64 .i64 (a.length:Int) (b.length:Int) Tryz.underlying3
 rw [run_neq_struct,run_equalIn_struct _ _ _ _ _ hu hp]
 simp only [Program.fieldsOf,Tryz.underlying200,Op.eqFields]
 rw [if_pos (by decide),Sem.run_bind,show lnC a=(padB a).map Value.bool++[.int .i64 (a.length:Int)] from rfl,show lnC b=(padB b).map Value.bool++[.int .i64 (b.length:Int)] from rfl,
  zef _ (zbs a),Result.andThen_ok,Sem.run_bind,zef _ (zbs b),Result.andThen_ok,Sem.run_bind,c1,Result.andThen_ok]
 rw [eqL]
 cases (padB a==padB b)
 ·simp
 ·simp only [Bool.not_true,Bool.false_eq_true,if_false]
  rw [if_pos (by decide),Sem.run_bind,zhI _ (zbs a),Result.andThen_ok,Sem.run_bind,zhI _ (zbs b),Result.andThen_ok,Sem.run_bind,c2,Result.andThen_ok]
  cases ((a.length:Int)==(b.length:Int)) <;> simp
end Go.Proofs.YtbjgpbojjhldaaaGreatDoor
/- slices.Equal and Index over Booleans. -/
namespace Go.Proofs.YtbjgpbojjhldaaaGreatDoor
set_option maxRecDepth 100000
open Go.RowKit
def idxV (v:Bool) (l:List Bool):Int:=match l.idxOf? v with
 | none => -1
 | some k=>(k:Int)
theorem zh6 (n c:Nat) (A:Option Addr) (l:List Bool) (v:Bool) (w:World) (hl:Vec shBool w A n l) (hn:n<=4096) :
  Calls Tryz.prog 240 #[.slice A n c,.bool v] w fun e w'=>e = .returned (.int .i64 (idxV v l))/\Ext w w':=by
 have HX:=Za hl
 have aa:=hl.1
 clear hl
 go_enter Tryz.func240,Tryz.ntmps240
 go_wp2_with fail
 go_loopw [8] (fun i wr=>∃k:Nat,i = .int .i64 k/\k<=n/\Hid (Ext w wr)/\Hid (∀j,j<k->l.getD j false≠v)) (fun i _=>n-(intOf i).toNat)
 case atStart=>exact ⟨0,rfl,by omega,Za zx,Za (by intro j hj;omega)⟩
 case round =>
  obtain ⟨k,rfl,hk,HE,HA⟩:=hrel
  by_cases hlt:k<n
  ·obtain ⟨b,off,rfl,hb,hc⟩:=zaX HX.out (by omega)
   have c0:=(Zl (p:=⟨b,off+k,none⟩) HE.out hb).trans (hc k hlt)
   have q0:(0:Int)<=(k:Int):=by omega
   have q1:(k:Int)<(n:Int):=by omega
   obtain ⟨x,hx⟩:∃x,l.getD k false=x:=⟨_,rfl⟩
   rw [hx] at c0
   have ab:=Za hx
   clear hx hc
   by_cases hv:v=x
   ·have HI:=Za (show idxV v l=(k:Int) by rw [idxV,zpo (by omega) (by rw [ab.out,hv]) HA.out])
    subst hv
    go_wp2_with fail
    go_ret
    exact ⟨by rw [HI.out];rfl,HE.out.trans zx⟩
   ·have hv2:(v==x)=false:=by simpa using hv
    have ac:=Za (show ∀j,j<k+1->l.getD j false≠v from fun j hj=>by
     by_cases e:j=k
     ·subst e;rw [ab.out];exact fun e=>hv e.symm
     ·exact HA.out j (by omega))
    clear hv
    go_wp2_with fail
    go_roundw
    case rel=>exact ⟨k+1,by go_num,by omega,Za (by have:=HE.out;repeat (first|exact zr _|assumption|refine za ?_ _|refine zd ?_|refine zn ?_ _|refine zt ?_ (by assumption))),ac⟩
    case measure=>simp [intOf];omega
  ·obtain rfl:k=n:=by omega
   have HI:=Za (show idxV v l = -1 by rw [idxV,zmE (by rw [aa];exact HA.out)])
   go_wp2_with fail
   go_ret
   exact ⟨by rw [HI.out];rfl,HE.out.trans zx⟩
theorem zlZ {xs ys:List Bool} {n:Nat} (hx:xs.length=n) (hy:ys.length=n) (h:∀j,j<n->xs.getD j false=ys.getD j false):xs=ys:=by
 apply List.ext_getElem (by omega)
 intro i h1 h2
 have:=h i (by omega)
 rwa [Zd,Zd,Zf h1,Zf h2] at this
theorem zlT (n c m d:Nat) (A B:Option Addr) (xs ys:List Bool) (w:World) (hx:Vec shBool w A n xs) (hy:Vec shBool w B m ys) (hn:n<=4096) (hm:m<=4096) :
  Calls Tryz.prog 135 #[.slice A n c,.slice B m d] w fun e w'=>e = .returned (.bool (decide (xs=ys)))/\∃q,w'=w.drewN q:=by
 by_cases hnm:n=m
 ·subst hnm
  have HX:=Za hx
  have HY:=Za hy
  have hl1:=hx.1
  have ae:=hy.1
  clear hx hy
  go_enter Tryz.func135,Tryz.ntmps135
  go_wp2_with fail
  go_loopw [13] (fun i wr=>∃k:Nat,i = .int .i64 k/\k<=n/\Hid (∃q,wr=w.drewN q)/\Hid (∀j,j<k->xs.getD j false=ys.getD j false)) (fun i _=>n-(intOf i).toNat)
  case atStart=>exact ⟨0,rfl,by omega,Za ⟨0,rfl⟩,Za (by intro j hj;omega)⟩
  case round =>
   obtain ⟨k,rfl,hk,HQ,HA⟩:=hrel
   obtain ⟨q,rfl⟩:=HQ.out
   have HE:=Za (show Ext w (w.drewN q) from (Ze w).drewN q)
   by_cases hlt:k<n
   ·obtain ⟨b,off,rfl,hb,hc⟩:=zaX HX.out (by omega)
    obtain ⟨b2,off2,rfl,hb2,ac⟩:=zaX HY.out (by omega)
    have c0:=hc k hlt
    have c1:=ac k hlt
    have q0:(0:Int)<=(k:Int):=by omega
    have q1:(k:Int)<(n:Int):=by omega
    obtain ⟨x,hx⟩:∃x,xs.getD k false=x:=⟨_,rfl⟩
    obtain ⟨y,hy⟩:∃y,ys.getD k false=y:=⟨_,rfl⟩
    rw [hx] at c0
    rw [hy] at c1
    have aa:=Za hx
    have ab:=Za hy
    clear hx hy hc ac
    by_cases hv:x=y
    ·have ad:=Za (show ∀j,j<k+1->xs.getD j false=ys.getD j false from fun j hj=>by
      by_cases e:j=k
      ·subst e;rw [aa.out,ab.out];exact hv
      ·exact HA.out j (by omega))
     subst hv
     go_wp2_with fail
     go_quiet (fail)
     go_wp2
     go_roundw
     case rel=>exact ⟨k+1,by go_num,by omega,Za ⟨q+nq,by first | rfl | (rw [World.drewN_drewN]) | (simp;done)⟩,ad⟩
     case measure=>simp [intOf];omega
    ·have HI:=Za (show decide (xs=ys)=false from ZU (fun e=>hv (by rw [<-aa.out,<-ab.out,e])))
     have hv2:(x==y)=false:=by simpa using hv
     have hv3:(x != y)=true:=by simpa using hv
     clear hv
     go_wp2_with fail
     go_quiet (fail)
     go_wp2
     go_ret
     exact ⟨by rw [HI.out];rfl,q+nq,by first | rfl | (rw [World.drewN_drewN]) | (simp;done)⟩
   ·obtain rfl:k=n:=by omega
    have HI:=Za (show decide (xs=ys)=true from decide_eq_true (zlZ hl1 ae HA.out))
    go_wp2_with fail
    go_ret
    exact ⟨by rw [HI.out];rfl,q,rfl⟩
 ·have HI:=Za (show decide (xs=ys)=false from ZU (fun e=>hnm (by rw [<-hx.1,<-hy.1,e])))
  have q:((n:Int) != (m:Int))=true:=by simp;omega
  clear hx hy hnm
  go_enter Tryz.func135,Tryz.ntmps135
  go_wp2
  go_ret
  exact ⟨by rw [HI.out];rfl,0,rfl⟩
theorem zhe {n c m d k:Nat} {A B:Option Addr} {xs ys:List Bool} {w:World} {v:Bool} (hx:Vec shBool w A n xs) (hy:Vec shBool w B m ys) (hn:n<=4096) (hm:m<=4096) (hv:decide (xs=ys)=v) :
  Calls Tryz.prog 135 #[.slice A n c,.slice B m d] (w.drewN k) fun e w''=>e = .returned (.bool v)/\∃q,w''=w.drewN q :=
 (zlT n c m d A B xs ys (w.drewN k) (Vec.ext hx ((Ze w).drewN k)) (Vec.ext hy ((Ze w).drewN k)) hn hm).mono fun _ _ ⟨h1,q,h2⟩=>⟨by rw [h1,hv],k+q,by rw [h2,World.drewN_drewN]⟩
end Go.Proofs.YtbjgpbojjhldaaaGreatDoor
/- repeat: mod,row. -/
namespace Go.Proofs.YtbjgpbojjhldaaaGreatDoor
set_option maxRecDepth 100000
open Go.RowKit
theorem zdE (a n:Nat) (hn:0<n) (ha:a<=100000) (hn2:n<=100000) (w:World) :
  Calls Tryz.prog 97 #[.int .i64 (a:Int),.int .i64 (n:Int)] w fun e w'=>e = .returned (.int .i64 ((a % n:Nat):Int))/\w=w':=by
 obtain ⟨r,hr⟩:∃r,a % n=r:=⟨_,rfl⟩
 have aa:(a:Int) % (n:Int)=(r:Int):=by rw [<-hr];simp
 have hm1:Int.tmod (a:Int) (n:Int)=(r:Int):=by rw [Int.tmod_eq_emod_of_nonneg (by omega)];exact aa
 have q0:((n:Int)==0)=false:=by simpa using (show n≠0 by omega)
 have q1:¬(n:Int)=0:=by omega
 have q2:¬(r:Int)<0:=by omega
 rw [hr]
 clear hr
 go_enter Tryz.func97,Tryz.ntmps97
 go_wp2
 go_ret
 exact ⟨rfl,rfl⟩
theorem zkU (b off c y:Nat) (g:Gd) (hg:okG g) (hc:g.b.length<=c) (hy:y<=1000) (w:World) :
  Calls Tryz.prog 99 #[gridV (some ⟨b,off,none⟩) c g,.int .i64 (y:Int)] w fun e w'=>e = .returned (.slice (some ⟨b,off+y % g.h*g.w,none⟩) g.w g.w)/\Ext w w':=by
 obtain ⟨h1,h2,h3,h4,h5⟩:=hg
 obtain ⟨W,hW⟩:∃W,g.w=W:=⟨_,rfl⟩
 obtain ⟨H,hH⟩:∃H,g.h=H:=⟨_,rfl⟩
 obtain ⟨L,hL⟩:∃L,g.b.length=L:=⟨_,rfl⟩
 have HM:=Za (fun w'=>zdE y H (by omega) (by omega) (by omega) w')
 unfold gridV
 rw [hW,hH,hL]
 rw [hW] at h1 h2 h5
 rw [hH] at h3 h4 h5
 rw [hL] at h5 hc
 have hlt:y % H<H:=Nat.mod_lt _ (by omega)
 obtain ⟨r,hr⟩:∃r,y % H=r:=⟨_,rfl⟩
 rw [hr] at HM hlt ⊢
 clear hW hH hL hr
 obtain ⟨lo,hlo⟩:∃lo,r*W=lo:=⟨_,rfl⟩
 obtain ⟨hi,aa⟩:∃hi,(r+1)*W=hi:=⟨_,rfl⟩
 have e1:(r:Int)*(W:Int)=(lo:Int):=by rw [<-hlo];simp
 have e2:((r:Int)+1)*(W:Int)=(hi:Int):=by rw [<-aa];simp
 have e3:lo+W=hi:=by rw [<-hlo,<-aa,Nat.add_mul,Nat.one_mul]
 have e4:hi<=L:=by
  rw [h5,<-aa,Nat.mul_comm W]
  exact Nat.mul_le_mul_right _ hlt
 have e9:L<=4096:=by rw [h5];exact Nat.mul_le_mul h2 h4
 rw [hlo]
 have i0:=Zj ((r:Int)+1) (by omega)
 have i1:=Zj (lo:Int) (by omega)
 have i2:=Zj (hi:Int) (by omega)
 have q0:(0:Int)<=(lo:Int):=by omega
 have q1:(lo:Int)<=(hi:Int):=by omega
 have q2:(hi:Int)<=(L:Int):=by omega
 have q3:(hi:Int)<=(c:Int):=by omega
 have q4:hi-lo=W:=by omega
 have q5:¬hi=lo:=by omega
 have q6:¬c=lo:=by omega
 clear hlo aa h5 e3
 go_enter Tryz.func99,Tryz.ntmps99
 go_wp2_with (go_at_call 97;((with_reducible refine (HM.out _).mono ?_);rintro e w1 ⟨rfl,rfl⟩))
 go_ret
 exact ⟨rfl,zx⟩
end Go.Proofs.YtbjgpbojjhldaaaGreatDoor
/- repeat: turned. -/
namespace Go.Proofs.YtbjgpbojjhldaaaGreatDoor
set_option maxRecDepth 100000
open Go.RowKit
theorem zfz (ba oa bb ob W d:Nat) (x y:List Bool) (hW:W<=64) (hd:d<W) (w:World) (hx:Vec shBool w (some ⟨ba,oa,none⟩) W x) (hy:Vec shBool w (some ⟨bb,ob,none⟩) W y) :
  Calls Tryz.prog 98 #[.slice (some ⟨ba,oa,none⟩) W W,.slice (some ⟨bb,ob,none⟩) W W,.int .i64 (d:Int)] w fun e w'=>e = .returned (.bool (rturn x y d))/\Ext w w':=by
 have ad:=hx.1
 have ab:=hy.1
 obtain ⟨m,hm⟩:∃m,m+d=W:=⟨W-d,by omega⟩
 have hr:rturn x y d=(decide (x.drop d=y.take m) && decide (x.take d=y.drop m)):=by rw [rturn,ab,show W-d=m by omega]
 have H1:=zaD hx (i:=d) (j:=W) (by omega) (Zb _) (by omega)
 rw [show W-d=m by omega,Zs (by rw [ZA];omega)] at H1
 have H2:=zaD hy (i:=0) (j:=m) (by omega) (by omega) (by omega)
 rw [Nat.sub_zero,Nat.add_zero,List.drop_zero] at H2
 have H3:=zaD hx (i:=0) (j:=d) (by omega) (by omega) (by omega)
 rw [Nat.sub_zero,Nat.add_zero,List.drop_zero] at H3
 obtain ⟨Ap,hAp⟩:∃Ap:Option Addr,(if W=m then some ⟨bb,ob,none⟩ else some ⟨bb,ob+m,none⟩)=Ap:=⟨_,rfl⟩
 have H4:Vec shBool w Ap d (y.drop m):=by
  rw [<-hAp]
  split
  ·obtain rfl:d=0:=by omega
   rw [ZE (by omega)]
   exact Vec.none_ _ _ _
  ·have h9:=zaD hy (i:=m) (j:=W) (by omega) (Zb _) (by omega)
   rw [show W-m=d by omega,Zs (by rw [ZA];omega)] at h9
   exact h9
 obtain ⟨u,hu⟩:∃u,decide (x.drop d=y.take m)=u:=⟨_,rfl⟩
 obtain ⟨v,hv⟩:∃v,decide (x.take d=y.drop m)=v:=⟨_,rfl⟩
 rw [hr,hu,hv]
 have aa:=Za (fun (c1 c2 k:Nat)=>zhe (c:=c1) (d:=c2) (k:=k) H1 H2 (by omega) (by omega) hu)
 have ac:=Za (fun (c1 c2 k:Nat)=>zhe (c:=c1) (d:=c2) (k:=k) H3 H4 (by omega) (by omega) hv)
 have e1:(W:Int)-(d:Int)=(m:Int):=by omega
 have i1:=Zj (m:Int) (by omega)
 have q0:(0:Int)<=(d:Int):=by omega
 have q1:(d:Int)<=(W:Int):=by omega
 have q2:(0:Int)<=(m:Int):=by omega
 have q3:(m:Int)<=(W:Int):=by omega
 have q4:¬W=d:=by omega
 have q5:W-d=m:=by omega
 have q6:W-m=d:=by omega
 clear hr H1 H2 H3 H4 hu hv hx hy ad ab hm
 cases u
 ·go_enter Tryz.func98,Tryz.ntmps98
  go_wp2_with fail
  go_quiet ((go_at_call 135;with_reducible exact aa.out _ _ _))
  go_wp2
  go_ret
  exact ⟨rfl,zx⟩
 ·go_enter Tryz.func98,Tryz.ntmps98
  go_wp2_with fail
  go_quiet (first
   | (go_at_call 135;with_reducible exact aa.out _ _ _)
   | (go_at_call 135;with_reducible exact ac.out _ _ _))
  go_wp2
  go_ret
  exact ⟨rfl,zx⟩
end Go.Proofs.YtbjgpbojjhldaaaGreatDoor
/- repeat: repeats. -/
namespace Go.Proofs.YtbjgpbojjhldaaaGreatDoor
set_option maxRecDepth 100000
open Go.RowKit Go.ChangeShapes Go.WideShapes Go.Joins
theorem zgU {w:World} {b off:Nat} {g:Gd} (hv:GridAt w (some ⟨b,off,none⟩) g) (hg:okG g) {y:Nat} (hy:y<g.h):Vec shBool w (some ⟨b,off+y*g.w,none⟩) g.w (g.row y):=by
 have h0:=zet hg (x:=0) (by have:=hg.1;omega) hy
 have h1:(y+1)*g.w<=g.h*g.w:=Nat.mul_le_mul_right _ hy
 have h2:=hg.2.2.2.2
 rw [Nat.mul_comm] at h2
 rw [Nat.add_mul,Nat.one_mul] at h1
 have h9:=zaD hv (i:=y*g.w) (j:=y*g.w+g.w) (by omega) (by omega) (by omega)
 rw [Nat.add_sub_cancel_left] at h9
 exact h9
theorem zqF {T:Nat->Bool} {H y:Nat} (hy:y<H) (h:T y=false):(List.range H).all T=false:=by
 rw [List.all_eq_false]
 exact ⟨y,ZG.2 hy,by simp [h]⟩
theorem zoT {T:Nat->Bool} {H:Nat} (h:∀y,y<H->T y=true):(List.range H).all T=true:=by
 rw [Zu]
 exact fun y hy=>h y (ZG.1 hy)
theorem ziO (b off c dx dy:Nat) (g:Gd) (hg:okG g) (hc:g.b.length<=c) (hdx:dx<=500) (hdy:dy<=500) (w:World) (hv:GridAt w (some ⟨b,off,none⟩) g) :
  Calls Tryz.prog 60 #[gridV (some ⟨b,off,none⟩) c g,.int .i64 (dx:Int),.int .i64 (dy:Int)] w fun e w'=>e = .returned (.bool (repB g dx dy))/\Ext w w':=by
 have ad:=Za (fun (y:Nat) (hy:y<=1000) w'=>zkU b off c y g hg hc hy w')
 obtain ⟨h1,h2,h3,h4,h5⟩:=id hg
 have HT:=Za (fun (y:Nat) (hy:y<g.h) (w':World) (h:Ext w w')=>by
  have hm:(y+dy % g.h) % g.h<g.h:=Nat.mod_lt _ (by omega)
  have h9:=zfz b (off+(y+dy % g.h) % g.h*g.w) b (off+y % g.h*g.w) g.w (dx % g.w) (g.row ((y+dy % g.h) % g.h)) (g.row y) h2 (Nat.mod_lt _ (by omega)) w'
   (Vec.ext (zgU hv hg hm) h) (by rw [Nat.mod_eq_of_lt hy];exact Vec.ext (zgU hv hg hy) h)
  exact h9)
 have ac:repB g dx dy=(List.range g.h).all (fun y=>rturn (g.row ((y+dy % g.h) % g.h)) (g.row y) (dx % g.w)):=rfl
 rw [ac]
 obtain ⟨T,hT⟩:∃T:Nat->Bool,(fun y=>rturn (g.row ((y+dy % g.h) % g.h)) (g.row y) (dx % g.w))=T:=⟨_,rfl⟩
 have ab:=Za (show ∀(y:Nat) (hy:y<g.h) (w':World) (h:Ext w w'),Calls Tryz.prog 98 #[.slice (some ⟨b,off+(y+dy % g.h) % g.h*g.w,none⟩) g.w g.w,.slice (some ⟨b,off+y % g.h*g.w,none⟩) g.w g.w,.int .i64 ((dx % g.w:Nat):Int)] w' fun e w''=>e = .returned (.bool (T y))/\Ext w' w'' from fun y hy w' h=>by
  rw [<-hT]
  exact HT.out y hy w' h)
 rw [hT]
 clear hT HT ac hv
 have af:=Za (fun w'=>zdE dx g.w (by omega) (by omega) (by omega) w')
 have ag:=Za (fun w'=>zdE dy g.h (by omega) (by omega) (by omega) w')
 have aj:dy % g.h<g.h:=Nat.mod_lt _ (by omega)
 unfold gridV at ad ⊢
 obtain ⟨W,hW⟩:∃W,g.w=W:=⟨_,rfl⟩
 obtain ⟨H,hH⟩:∃H,g.h=H:=⟨_,rfl⟩
 rw [hW] at h1 h2 ab af
 rw [hH] at h3 h4 ab ag aj
 simp only [hW,hH] at ad ⊢
 obtain ⟨d,hd⟩:∃d,dx % W=d:=⟨_,rfl⟩
 obtain ⟨m,hm⟩:∃m,dy % H=m:=⟨_,rfl⟩
 rw [hd] at af ab
 rw [hm] at ag ab aj
 clear hW hH hd hm hg h5 hc
 have aa:=Za (Tb.new w (.int .i64 (W:Int)) (.int .i64 (H:Int)) (.slice (some ⟨b,off,none⟩) g.b.length c) 54)
 go_enter Tryz.func60,Tryz.ntmps60
 go_wp2_with (go_at_call 97;((with_reducible refine (af.out _).mono ?_);rintro e w1 ⟨rfl,rfl⟩))
 obtain ⟨WB,ai⟩:∃WB,w.alloc (.cells #[.int .i64 (W:Int),.int .i64 (H:Int),.slice (some ⟨b,off,none⟩) g.b.length c] 54)=WB:=⟨_,rfl⟩
 have ae:=Za (show Ext w WB by rw [<-ai];exact (Ze w).alloc _)
 rw [ai] at aa ⊢
 clear ai
 go_loopw [14] (fun yy wr=>∃y:Nat,yy = .int .i64 y/\y<=H/\Hid (Ext WB wr)/\Hid (∀j,j<y->T j=true)) (fun yy _=>H-(intOf yy).toNat)
 case atStart=>exact ⟨0,rfl,by omega,Za (Ze _),Za (fun j hj=>absurd hj (Nat.not_lt_zero _))⟩
 case round =>
  obtain ⟨y,rfl,hy,HE,HA⟩:=hrel
  by_cases hlt:y<H
  ·have q0:(y:Int)<(H:Int):=by omega
   obtain ⟨⟨c0,c1,c2⟩, -⟩:=aa.out.ext HE.out
   obtain ⟨ym,hym⟩:∃ym,y+m=ym:=⟨_,rfl⟩
   have e1:(y:Int)+(m:Int)=(ym:Int):=by omega
   have i1:=Zj (ym:Int) (by omega)
   have am:=Za (fun w'=>ad.out ym (by omega) w')
   have ao:=Za (fun w'=>ad.out y (by omega) w')
   have ah:=Za (fun w' (h:Ext wr w')=>ab.out y hlt w' (ae.out.trans (HE.out.trans h)))
   rw [hym] at ah
   have ap:=Za (show ∀j,j<y->T j=true from HA.out)
   obtain ⟨v,hv⟩:∃v,T y=v:=⟨_,rfl⟩
   rw [hv] at ah
   have HV:=Za hv
   clear hym hv
   go_wp2_with fail
   go_region_law (first
    | (go_simp;(go_at_call 97;((with_reducible refine (ag.out _).mono ?_);rintro e w5 ⟨rfl,rfl⟩)))
    | (go_simp;(go_at_call 99;((with_reducible refine (am.out _).mono ?_);rintro e w6 ⟨rfl,hq6⟩;have aq:Ext wr w6:=(zx);obtain ⟨⟨d0,d1,d2⟩, -⟩:=aa.out.ext (HE.out.trans aq))))
    | (go_simp;(go_at_call 99;((with_reducible refine (ao.out _).mono ?_);rintro e w7 ⟨rfl,hq7⟩;have ar:Ext wr w7:=(zx);obtain ⟨⟨b0,b1,b2⟩, -⟩:=aa.out.ext (HE.out.trans ar))))
    | (go_simp;(go_at_call 98;((with_reducible refine (ah.out _ zx).mono ?_);rintro e w8 ⟨rfl,hq8⟩;have ak:Ext wr w8:=(zx)))))
   all_goals
    cases v
    ·have HI:=Za (zqF hlt HV.out)
     go_wp2_with fail
     go_ret
     exact ⟨by rw [HI.out];rfl,ae.out.trans (HE.out.trans ak)⟩
    ·have al:=Za (show ∀j,j<y+1->T j=true from fun j hj=>by
      by_cases e:j=y
      ·subst e;exact HV.out
      ·exact ap.out j (by omega))
     go_wp2_with fail
     go_roundw
     case rel=>exact ⟨y+1,by go_num,by omega,Za (HE.out.trans ak),al⟩
     case measure=>simp [intOf];omega
  ·obtain rfl:y=H:=by omega
   have HI:=Za (zoT HA.out)
   obtain ⟨⟨c0,c1,c2⟩, -⟩:=aa.out.ext HE.out
   go_wp2_with fail
   go_ret
   exact ⟨by rw [HI.out];rfl,ae.out.trans (HE.out.trans zx)⟩
end Go.Proofs.YtbjgpbojjhldaaaGreatDoor
/- factor.lines. -/
namespace Go.Proofs.YtbjgpbojjhldaaaGreatDoor
set_option maxRecDepth 100000
open Go.RowKit Go.ChangeShapes Go.WideShapes Go.Joins
section
variable {P:Program} {ops:Array Oper} {rest:List Oper} {o:Oper} {a:Act} {K:Act->World->Prop} {Q:Exit->Act->World->Prop} {E:Prop} {w wx:World}
theorem zo6 (dT sT ty e e2:TypeId) (size:Nat) {g n B k m dn dc sn sc:Nat} {ad:Addr} {A X Y cs:List Value} (hu:P.underlying dT=some (.slice e2)) (hsz:(P.info? e2).map (·.size)=some 1)
  (hown:wx.ownsRow B e size (.slice (some ⟨g,0,none⟩) n n) n (A++X++Y)) (hk:A.length=k) (hm:m=sn.min dn) (hl:cs.length=m) (hX:X.length=cs.length) (hsrc:∀j u,cs[j]?=some u->wx.cell? (ad.add j)=some u) (h1:∀v∈cs,v.oneCell'=true) :
  (Builtin.copy_ #[dT,sT] ty #[.slice (some ⟨g,k,none⟩) dn dc,.slice (some ad) sn sc]).run P wx = .ok (goInt m) (wx.setCells g k cs)/\(wx.setCells g k cs).ownsRow B e size (.slice (some ⟨g,0,none⟩) n n) n (A++cs++Y)/\But (some g) wx (wx.setCells g k cs):=by
 subst hk
 have aa:=hown.1
 have ac:∃cur,B<=g/\wx.heap[g]?=some (.cells cur e (0,0))/\n<=maxLen/\cur.size=n*size/\cur.toList.take (n*size)=A++X++Y:=by
  rcases hown.2 with ⟨h',_⟩ | ⟨g',cap',cur,h',hb,hg,hnc,ae,ab,hq⟩
  ·simp at h'
  ·simp only [Value.slice.injEq,Option.some.injEq,Addr.mk.injEq,and_true,true_and] at h'
   obtain ⟨rfl,rfl⟩:=h'
   exact ⟨cur,hb,hg,ae,ab,hq⟩
 obtain ⟨cur,hb,hg,af,ab,hq⟩:=ac
 have hcur:cur=(A++X++Y).toArray:=by
  rw [<-hq,Zs (by simp [ab])]
 subst hcur
 refine ⟨zck wx dT sT ty e2 1 m g A.length ad dn dc sn sc cs hu hsz hm (by omega) hsrc ?_ (fun j _=>World.ownsRow.frozenAt hown _) h1,⟨?_,.inr ⟨g,n,_,rfl,hb,zcO hg hX.symm,Zb _,af,?_,?_⟩⟩,zbF g cs A.length wx⟩
 ·intro j hj
  rw [cell_of_row wx g _ _ e (0,0) hg,Array.getElem?_eq_getElem (by simp;omega)]
  rfl
 ·simpa [hX] using aa
 ·simpa [hX] using ab
 ·refine Zs ?_
  show (A++cs++Y).length<=n*size
  simp only [Zc] at aa ⊢
  omega
theorem zfY (ty e e2:TypeId) (size:Nat) (dT sT:TypeId) {g n B k m dn dc sn sc:Nat} {ad:Addr} {A X Y:List Value} (cs:List Value)
  (hu:P.underlying dT=some (.slice e2)) (hsz:(P.info? e2).map (·.size)=some 1)
  (hown:wx.ownsRow B e size (.slice (some ⟨g,0,none⟩) n n) n (A++X++Y)) (hk:A.length=k) (hm:m=sn.min dn) (hl:cs.length=m) (hX:X.length=cs.length) (hsrc:∀j u,cs[j]?=some u->wx.cell? (ad.add j)=some u) (h1:∀v∈cs,v.oneCell'=true)
  (h:∀w1,Hid (w1.ownsRow B e size (.slice (some ⟨g,0,none⟩) n n) n (A++cs++Y))->Hid (But (some g) wx w1)->K (a.put o.dst (goInt m)) w1) :
  Oper.upon P o a K Q ((Sem.run P (Builtin.copy_ #[dT,sT] ty #[.slice (some ⟨g,k,none⟩) dn dc,.slice (some ad) sn sc]) wx).andThen fun a w'=>Result.ok (Next.value a) w'):=by
 obtain ⟨aa,r1,r2⟩:=zo6 (P:=P) dT sT ty e e2 size (dc:=dc) (sc:=sc) hu hsz hown hk hm hl hX hsrc h1
 rw [aa]
 exact h _ (Za r1) (Za r2)
end
theorem zmS {W:Nat} (h:W<=64):lnC []=List.replicate W (.bool false)++(List.replicate (64-W) (.bool false)++[.int .i64 0]):=by
 rw [<-Zr,List.replicate_append_replicate,show W+(64-W)=64 by omega]
 rfl
theorem zpy {r:List Bool} {W:Nat} (hl:r.length=W) (h:W<=64):lnC r=r.map Value.bool++(List.replicate (64-W) (.bool false)++[.int .i64 (W:Int)]):=by
 rw [lnC,zgN (by omega),hl,List.map_append,List.map_replicate,Zr]
def lnL (g:Gd) (y:Nat):List (List Bool):=(rowsG g).take y++List.replicate (g.h-y) []
theorem zmT {g:Gd} (hg:okG g) {y:Nat} (h:y<g.h):(lnL g y).flatMap shLn.cells=((rowsG g).take y).flatMap shLn.cells++List.replicate g.w (.bool false)++(List.replicate (64-g.w) (.bool false)++[.int .i64 0]++(List.replicate (g.h-y-1) ([]:List Bool)).flatMap shLn.cells):=by
 rw [lnL,ZO,show g.h-y=(g.h-y-1)+1 by omega,List.replicate_succ,List.flatMap_cons]
 show _++(lnC []++_)=_
 rw [zmS hg.2.1]
 simp only [Zr,Nat.add_sub_cancel]
theorem zpA {g:Gd} (hg:okG g) {y:Nat} (h:y<g.h):(lnL g (y+1)).flatMap shLn.cells=((rowsG g).take y).flatMap shLn.cells++(g.row y).map Value.bool++(List.replicate (64-g.w) (.bool false)++[.int .i64 (g.w:Int)]++(List.replicate (g.h-y-1) ([]:List Bool)).flatMap shLn.cells):=by
 have e:(rowsG g).take (y+1)=(rowsG g).take y++[g.row y]:=by
  rw [List.take_add_one,zgV h]
  rfl
 rw [lnL,e,ZO,ZO,List.flatMap_cons,List.flatMap_nil,ZF,show g.h-(y+1)=g.h-y-1 by omega]
 show _++lnC (g.row y)++_=_
 rw [zpy (za3 hg h) hg.2.1]
 simp only [Zr]
theorem zkl {g:Gd} {y:Nat} (h:y<=g.h):(((rowsG g).take y).flatMap shLn.cells).length=y*65:=by
 rw [zaU,Zw,zcj,Nat.min_eq_left h]
 rfl
theorem zra {g:Gd} (hg:okG g) {y:Nat} (h:y<g.h):(((rowsG g).take y).flatMap shLn.cells++(g.row y).map Value.bool++(List.replicate (64-g.w) (Value.bool false)++[Value.int .i64 0]++(List.replicate (g.h-y-1) ([]:List Bool)).flatMap shLn.cells)).set (y*65+64) (.int .i64 (g.w:Int))=(lnL g (y+1)).flatMap shLn.cells:=by
 rw [zpA hg h]
 have h1:=hg.2.1
 have hp:=zkl (g:=g) (Nat.le_of_lt h)
 have hr:((g.row y).map Value.bool).length=g.w:=by rw [List.length_map,za3 hg h]
 rw [List.set_append_right _ _ (by simp only [Zc];omega),Zr (List.replicate _ _),List.set_append_right _ _ (by simp only [Zc,ZH];omega),Zc,hp,hr,ZH,show y*65+64-(y*65+g.w)-(64-g.w)=0 by omega]
 simp
theorem zpz {g:Gd} (hg:okG g) {y:Nat} (h:y<g.h):(((rowsG g).take y).flatMap shLn.cells++(g.row y).map Value.bool++(List.replicate (64-g.w) (Value.bool false)++[Value.int .i64 0]++(List.replicate (g.h-y-1) ([]:List Bool)).flatMap shLn.cells))[y*65+64]?=some (.int .i64 0):=by
 have h1:=hg.2.1
 have hp:=zkl (g:=g) (Nat.le_of_lt h)
 have hr:((g.row y).map Value.bool).length=g.w:=by rw [List.length_map,za3 hg h]
 rw [ZN (by simp only [Zc];omega),Zr (List.replicate _ _),ZN (by simp only [Zc,ZH];omega),Zc,hp,hr,ZH,show y*65+64-(y*65+g.w)-(64-g.w)=0 by omega]
 rfl
theorem zgl (b off c:Nat) (g:Gd) (hg:okG g) (hc:g.b.length<=c) (w:World) (hv:GridAt w (some ⟨b,off,none⟩) g) :
  Calls Tryz.prog 134 #[gridV (some ⟨b,off,none⟩) c g] w fun e w'=>∃B c',e = .returned (.slice (some ⟨B,0,none⟩) g.h c')/\Vec shLn w' (some ⟨B,0,none⟩) g.h (rowsG g)/\Ext w w':=by
 obtain ⟨h1,h2,h3,h4,h5⟩:=id hg
 obtain ⟨W,hW⟩:∃W,g.w=W:=⟨_,rfl⟩
 obtain ⟨H,hH⟩:∃H,g.h=H:=⟨_,rfl⟩
 obtain ⟨L,hL⟩:∃L,g.b.length=L:=⟨_,rfl⟩
 have ai:=Za (fun y (h:y<g.h)=>zmT hg h)
 have aj:=Za (fun y (h:y<g.h)=>zra hg h)
 have ad:=Za (fun y (h:y<g.h)=>zpz hg h)
 have ap:=Za (fun y (h:y<=g.h)=>zkl (g:=g) h)
 have ah:=Za (fun y (h:y<g.h)=>za3 hg h)
 have ag:=Za (fun y (h:y<g.h)=>zgU hv hg h)
 have am:=Za (show (lnL g 0)=List.replicate g.h [] by rw [lnL,List.take_zero,List.nil_append,Nat.sub_zero])
 have ao:=Za (show (lnL g g.h)=rowsG g by rw [lnL,Zs (by rw [zcj];exact Zb _),Nat.sub_self,List.replicate_zero,ZF])
 unfold gridV
 rw [hW] at h1 h2 h5 ai aj ad ah ag
 rw [hH] at h3 h4 h5 ai aj ad ap ah ag am ao
 rw [hL] at h5 hc
 rw [hW,hH,hL]
 have ak:=Za (Tb.new w (.int .i64 (W:Int)) (.int .i64 (H:Int)) (.slice (some ⟨b,off,none⟩) L c) 54)
 have H5:=Za h5
 have e9:L<=4096:=by rw [h5];exact Nat.mul_le_mul h2 h4
 clear hW hH hL hv hg h5
 go_enter Tryz.func134,Tryz.ntmps134
 go_wp2_with (at_make;(refine zav 196 200 (.agg (lnC []).toArray) 65 72 H w.heap.size (by rfl) (by rfl) Tryz.underlying196 zfn (by rfl) (by omega) (by omega) (by simp) ?_;intro w1 ae al hlt1))
 rw [ZP] at ae
 obtain ⟨WB,ab⟩:∃WB,w.alloc (.cells #[.int .i64 (W:Int),.int .i64 (H:Int),.slice (some ⟨b,off,none⟩) L c] 54)=WB:=⟨_,rfl⟩
 have ar:=Za (show Ext w WB by rw [<-ab];exact (Ze w).alloc _)
 rw [ab] at ak al
 obtain ⟨B,hB⟩:∃B,w.heap.size+1=B:=⟨_,rfl⟩
 have HBB:=Za (show w.heap.size<=B by omega)
 have ay:=Za (show w1.ownsRow w.heap.size 200 65 (.slice (some ⟨B,0,none⟩) H H) H ((lnL g 0).flatMap shLn.cells) by
  rw [am.out,<-ziA,<-hB]
  exact ae.out)
 have av:=Za (show WB.heap.size<=B by rw [<-ab,ZP];omega)
 rw [hB]
 clear ae ab
 go_loopw [10] (fun i wr=>∃y:Nat,i = .int .i64 y/\y<=H/\Hid (wr.ownsRow w.heap.size 200 65 (.slice (some ⟨B,0,none⟩) H H) H ((lnL g y).flatMap shLn.cells))/\Hid (Ext WB wr)) (fun i _=>H-(intOf i).toNat)
 case atStart=>exact ⟨0,rfl,ZK _,ay,al⟩
 case round =>
  obtain ⟨y,rfl,hy,HO,HE⟩:=hrel
  by_cases hlt:y<H
  ·obtain ⟨⟨d0,d1,d2⟩, -⟩:=ak.out.ext HE.out
   obtain ⟨lo,hlo⟩:∃lo,y*W=lo:=⟨_,rfl⟩
   obtain ⟨hi,ac⟩:∃hi,(y+1)*W=hi:=⟨_,rfl⟩
   have e1:(y:Int)*(W:Int)=(lo:Int):=by rw [<-hlo];simp
   have e2:((y:Int)+1)*(W:Int)=(hi:Int):=by rw [<-ac];simp
   have e3:lo+W=hi:=by rw [<-hlo,<-ac,Nat.add_mul,Nat.one_mul]
   have e4:hi<=L:=by
    rw [H5.out,<-ac,Nat.mul_comm W]
    exact Nat.mul_le_mul_right _ hlt
   have i0:=Zj ((y:Int)+1) (by omega)
   have i1:=Zj (lo:Int) (by omega)
   have i2:=Zj (hi:Int) (by omega)
   have q0:(0:Int)<=(lo:Int):=by omega
   have q1:(lo:Int)<=(hi:Int):=by omega
   have q2:(hi:Int)<=(L:Int):=by omega
   have q3:(hi:Int)<=(c:Int):=by omega
   have q4:hi-lo=W:=by omega
   have q5:¬hi=lo:=by omega
   have q6:¬c=lo:=by omega
   have q7:(y:Int)<(H:Int):=by omega
   have q8:(0:Int)<=(y:Int):=by omega
   have HV:=Za (Vec.ext (ag.out y hlt) (ar.out.trans HE.out))
   rw [hlo] at HV
   have az:=Za (show wr.ownsRow w.heap.size 200 65 (.slice (some ⟨B,0,none⟩) H H) H (((rowsG g).take y).flatMap shLn.cells++List.replicate W (.bool false)++(List.replicate (64-W) (.bool false)++[.int .i64 0]++(List.replicate (H-y-1) ([]:List Bool)).flatMap shLn.cells)) by
    rw [<-ai.out y hlt]
    exact HO.out)
   have aE:=Za (show ∀j u,((g.row y).map Value.bool)[j]?=some u->wr.cell? (Addr.add ⟨b,off+lo,none⟩ j)=some u from fun j u hu=>HV.out.cells_at j u (by rw [zjJ];exact hu))
   have aB:=Za (show ∀v∈(g.row y).map Value.bool,v.oneCell'=true from fun u hu=>by obtain ⟨z,_,rfl⟩:=List.mem_map.1 hu;rfl)
   have aq:=Za (ah.out y hlt)
   have aC:=Za (ap.out y hy)
   have aD:=Za (aj.out y hlt)
   have aw:=Za (ad.out y hlt)
   clear hlo ac e3
   go_wp2_with fail
   go_region_with ((with_reducible refine zb9 ?_);(refine zfY (wx:=wr.drew) 3 200 4 65 52 52 ((g.row y).map Value.bool) Tryz.underlying52 zlb (World.ownsRow.drew az.out) aC.out (show W=Nat.min W 64 from (Nat.min_eq_left (by omega)).symm) (by rw [List.length_map,aq.out]) (by rw [List.length_map,aq.out,ZH]) aE.out aB.out ?_;intro w5 af au;have aF:=(World.ownsRow.cellAt af.out (y*65+64) (by omega)).trans aw.out;have aG:=World.ownsRow.frozenAt af.out (y*65+64)))
   all_goals
    have aa:=World.ownsRow.stored af.out (y*65+64) (.int .i64 (W:Int))
    have aA:=Za (show (w5.setCell ⟨B,y*65+64,none⟩ (.int .i64 (W:Int))).ownsRow w.heap.size 200 65 (.slice (some ⟨B,0,none⟩) H H) H ((lnL g (y+1)).flatMap shLn.cells) by
     rw [<-aD.out]
     exact aa.1)
    have ax:=Za (show Ext WB (w5.setCell ⟨B,y*65+64,none⟩ (.int .i64 (W:Int))) from But.below (((But.of_ext (ZR HE.out) (some B)).trans au.out).trans aa.2) (Zb _) (fun k e=>by cases e;exact av.out))
    clear aa aF aG d0 d1 d2
    go_wp2_with fail
    go_roundw
    case rel=>exact ⟨y+1,by go_num,by omega,aA,ax⟩
    case measure=>simp [intOf];omega
  ·obtain rfl:y=H:=by omega
   have HV:=Za (show Vec shLn wr (some ⟨B,0,none⟩) y (rowsG g) by
    have h9:=HO.out
    rw [ao.out] at h9
    exact Vec.of_own (S:=shLn) h9)
   go_wp2_with fail
   go_ret
   exact ⟨B,y,rfl,HV.out,ar.out.trans HE.out⟩
end Go.Proofs.YtbjgpbojjhldaaaGreatDoor
