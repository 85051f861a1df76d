/- console.Run. -/
import Derived.Test.YtbjgpbojjhldaaaGreatDoorY15
import Derived.Laws.CopyOwn
set_option maxHeartbeats 16000000
namespace Go.Proofs.YtbjgpbojjhldaaaGreatDoor
set_option maxRecDepth 100000
open Go.RowKit
theorem StAt.okC {w:World} {S:Nat} {st:Cs} (h:StAt w S st):∀g,st.c=some g->okG g:=fun g hg=>by
 obtain ⟨q, -,h4⟩:=h.cloth
 rw [hg] at h4
 obtain ⟨G,b,off,c, -, -, -, -, -, -, -, -, -, -,h, -⟩:=h4
 exact h
theorem zoR {wc:World} {S b:Nat} {o:List UInt8} (x:List UInt8) (hS:S<=wc.heap.size) (bl:Lib.IsBuilderF 75 5 S b (Lib.byteCells o) wc) (hl:o.length+x.length<=1000000000) :
  Calls Tryz.prog 37 #[.pointer (some ⟨b,0,none⟩),.string ⟨x.toArray⟩] wc fun e w'=>e = .returned (.tuple #[.int .i64 x.length,.nilIface])/\Lib.IsBuilderF 75 5 S b (Lib.byteCells (o++x)) w'/\Below S wc w'/\Lib.OthersKept 5 (some b) wc w':=by
 have aa:(Lib.byteCells o).length+(⟨x.toArray⟩:ByteArray).size<=140737488355328:=by
  have e2:(⟨x.toArray⟩:ByteArray).size=x.length:=by simp [ByteArray.size]
  rw [zbz]
  omega
 have h1:=Any.Builder_WriteString_k zjf zss S b (Lib.byteCells o) ⟨x.toArray⟩ wc bl aa hS
 refine h1.mono ?_
 rintro e w' ⟨rfl,h2,h3,h4⟩
 refine ⟨by simp [ByteArray.size],.inr ?_,h3,h4⟩
 have e:Lib.byteCells (o++x)=Lib.byteCells o++Lib.strCells ⟨x.toArray⟩:=by simp [Lib.byteCells,Lib.strCells]
 rw [e]
 exact h2
theorem zqx {ls:List (List UInt8)} {x:List UInt8} (h:x∈ls):x.length+1<=(unlB ls).length:=by
 induction ls with
 | nil=>cases h
 | cons a ls ih =>
  rw [unlB,Zc,Zk]
  rcases Zx.1 h with rfl | h
  ·omega
  ·have:=ih h;omega
theorem znX (ls:List (List UInt8)) (k:Nat):(unlB (ls.drop k)).length<=(unlB ls).length:=by
 have h:unlB ls=unlB (ls.take k)++unlB (ls.drop k):=by rw [<-znW,Z0]
 rw [h,Zc];omega
def lenOf:Value->Nat
 | .string s=>s.size
 | _=>0
theorem zl5 (hdo:∀(S:Nat) (st:Cs) (line:List UInt8) (w:World),line.length<=20000->Glob w->StAt w S st->Calls Tryz.prog 35 #[.pointer (some ⟨S,0,none⟩),.string ⟨line.toArray⟩] w (CmdR w S (doV atoiO st line)))
  (s:List UInt8) (hs:s.length<=1000000000) (w:World) (hG:Glob w) :
  Calls Tryz.prog 10 #[.string ⟨s.toArray⟩] w fun e w'=>e = .returned (.tuple #[.string ⟨(runV atoiO s).toArray⟩,.int .i64 (runE s)])/\Ext w w':=by
 have HC:=Za (fun w'=>zde s hs w')
 have HGL:=Za hG
 have aT:=Za hdo
 by_cases h0:runE s=0
 ·obtain ⟨r1,r2,r3,r4,r5⟩:=zqe h0
  have hv:runV atoiO s=unlB (outs atoiO cs0 (lnsB s)):=by rw [runV,if_neg (by simp [h0])]
  obtain ⟨ls,hls⟩:∃ls,lnsB s=ls:=⟨_,rfl⟩
  rw [hls] at r1 r2 r3 hv
  obtain ⟨R,hR⟩:∃R,runV atoiO s=R:=⟨_,rfl⟩
  have HV:=Za (show unlB (outs atoiO cs0 ls)=R by rw [<-hR,hv])
  have HN:=Za r2
  have hn:ls.length<=200:=by omega
  rw [h0] at HC ⊢
  rw [hR]
  have aX:=Za (show ∀x∈ls,x.length<=20000 from fun x hx=>by
   have h9:=zqx hx
   rw [r1] at h9;omega)
  clear hG hdo hv hR hls h0 r2 r3 r5
  subst r1
  go_enter Tryz.func10,Tryz.ntmps10
  go_wp2_with (first
   | (go_at_call 33;((with_reducible refine (HC.out _).mono ?_);rintro e5 w5 ⟨rfl,rfl⟩)))
  have aC:=Za (((zrH w 71 (by decide)).ext ((Ze _).alloc (.cells #[.pointer none,.slice none 0 0] 75))))
  have ao:=Za (zf6 (w.alloc (.cells #[.pointer none,.pointer none] 71)) 75 5 w.heap.size (by simp))
  have aJ:=Za (((Ze w).alloc (.cells #[.pointer none,.pointer none] 71)).alloc (.cells #[.pointer none,.slice none 0 0] 75))
  rw [ZP] at ao
  obtain ⟨W2,aP⟩:∃W,(w.alloc (.cells #[.pointer none,.pointer none] 71)).alloc (.cells #[.pointer none,.slice none 0 0] 75)=W:=⟨_,rfl⟩
  rw [aP] at aC ao aJ ⊢
  obtain ⟨S,hS⟩:∃S,w.heap.size=S:=⟨_,rfl⟩
  have ae:=Za hS
  rw [hS] at aC ao ⊢
  clear aP hS
  go_loopw [0] (fun u wr=>∃(k:Nat) (st:Cs) (o:List UInt8),u = .string ⟨(unlB (ls.drop k)).toArray⟩/\k<=ls.length/\Hid (StAt wr S st)/\Hid (Lib.IsBuilderF 75 5 S (S+1) (Lib.byteCells o) wr)/\Hid (Ext w wr)/\Hid (o++unlB (outs atoiO st (ls.drop k))=R)/\Hid (o.length<=100001*k)) (fun u _=>lenOf u)
  case atStart=>exact ⟨0,cs0,[],rfl,ZK _,aC,ao,aJ,Za HV.out,Za (by simp)⟩
  case round =>
   obtain ⟨k,st,o,rfl,hk,ab,ax,HE,HO,au⟩:=hrel
   by_cases hlt:k<ls.length
   ·obtain ⟨x,hx⟩:∃x,ls[k]=x:=⟨_,rfl⟩
    have hD:ls.drop k=x::ls.drop (k+1):=by rw [ZL hlt,hx]
    have aH:x∈ls:=by rw [<-hx];exact List.getElem_mem _
    have al:=aX.out x aH
    have ak:(10:UInt8) ∉ x:=fun h=>HN.out x aH 10 h rfl
    rw [hD]
    obtain ⟨y,hy⟩:∃y,unlB (ls.drop (k+1))=y:=⟨_,rfl⟩
    have aG:unlB (x::ls.drop (k+1))=x++10::y:=by rw [unlB,hy]
    rw [aG]
    have hcut:=zo7 (c:=10) (r:=y) ak
    have hO:=HO.out
    rw [hD,outs,unlB] at hO
    have ap:=Za (zst atoiO st x)
    have am:=Za (zoU atoiO st ab.out.okC x)
    obtain ⟨t,ht⟩:∃t,x++10::y=t:=⟨_,rfl⟩
    have hne:(t==[])=false:=by rw [<-ht];simp
    have hne2:t.isEmpty=false:=by rw [<-ht];simp
    have htl:t.length<=20000:=by have h9:=znX ls k;rw [hD,aG,ht] at h9;omega
    rw [ht]
    rw [ht] at hcut
    have ad:=Za (show ∀w',Glob w'->Calls Tryz.prog 34 #[.string ⟨t.toArray⟩,.string ⟨#[10]⟩] w' fun e w''=>e = .returned (.tuple #[.string ⟨x.toArray⟩,.string ⟨y.toArray⟩,.bool true])/\Ext w' w'' from fun w' h=>by have h9:=zah 10 t (by omega) w' h;rw [hcut] at h9;exact h9)
    have ay:=Za (fun w'=>aT.out S st x w' al)
    obtain ⟨D,hD9⟩:∃D,doV atoiO st x=D:=⟨_,rfl⟩
    rw [hD9] at hO ap am ay
    obtain ⟨st',a1,a2⟩:=D
    have aM:=Za hO
    have ar:=Za hlt
    have HY:=Za hy
    have aN:=Za (show y.length<t.length by rw [<-ht];simp;omega)
    have az:∀ {w6:World},But (some S) wr w6->Ext w w6:=fun {w6} h=>by
     have h9:=ae.out
     exact Below.trans HE.out (h.below (Zt HE.out) (fun k e=>by cases e;omega))
    have aO:S<wr.heap.size:=ab.out.lt
    clear hx hD aH ak aG hy hcut hO ht hD9 hlt al hk
    by_cases h2:a2=0
    ·subst h2
     have aD:=Za (show ∀wc,S<=wc.heap.size->Lib.IsBuilderF 75 5 S (S+1) (Lib.byteCells o) wc->Calls Tryz.prog 37 #[.pointer (some ⟨S+1,0,none⟩),.string ((⟨a1.toArray⟩:ByteArray)++⟨#[10]⟩)] wc (fun e w'=>e = .returned (.tuple #[.int .i64 (a1++[10]).length,.nilIface])/\Lib.IsBuilderF 75 5 S (S+1) (Lib.byteCells (o++(a1++[10]))) w'/\Below S wc w'/\Lib.OthersKept 5 (some (S+1)) wc w') from fun wc h1 h2=>by
      have e9:((⟨a1.toArray⟩:ByteArray)++⟨#[10]⟩)=⟨(a1++[10]).toArray⟩:=by apply ByteArray.ext;simp
      rw [e9]
      exact zoR (a1++[10]) h1 h2 (by rw [Zc,ZW];have h8:=am.out;have h7:=au.out;have h6:=ar.out;simp only [ansV,ne_eq,not_true_eq_false,if_false] at h8;omega))
     have hz1:¬9223372036854775807<a1.length+1:=by have h8:=am.out;simp only [ansV,ne_eq,not_true_eq_false,if_false] at h8;omega
     go_wp2_with (first
      | (go_at_call 34;((with_reducible refine (ad.out _ (HGL.out.ext (HE.out.trans zx))).mono ?_);rintro e w5 ⟨rfl,hq5⟩;have HX5:=Za (show Ext wr w5 from zx);clear hq5))
      | (go_at_call 35;((with_reducible refine (ay.out _ (HGL.out.ext (HE.out.trans (HX5.out.trans zx))) (ab.out.ext (HX5.out.trans zx))).mono ?_);rintro e w6 ⟨rfl,aj,af⟩;have aw:=Za aj;have aa:=Za (But.trans (But.of_ext (HX5.out.trans zx) (some S)) af);have aq:=Za (zf5 ax.out aa.out ab.out.nb (by omega));clear aj af))
      | (go_at_call 37;((with_reducible refine (aD.out _ (Zv (Nat.le_of_lt aO) aa.out.size) aq.out).mono ?_);rintro e w8 ⟨rfl,ah,ag,ai⟩;have aA:=Za ah;have ac:=Za ag;have aB:=Za ai;clear ah ag ai)))
     refine ⟨⟨k+1,st',o++(a1++[10]),by rw [HY.out],by have:=ar.out;omega,Za (aw.out.kept aq.out (by omega) ac.out.size aB.out),aA,Za (Below.trans (az aa.out) (by have h9:=ae.out;rw [h9];exact ac.out)),Za ?_,Za ?_⟩,aN.out⟩
     ·have h9:=aM.out
      simpa [ansV] using h9
     ·have h8:=am.out
      have h7:=au.out
      simp only [ansV,ne_eq,not_true_eq_false,if_false] at h8
      simp only [Zc,ZW]
      omega
    ·have h3:(a2==0)=false:=by simpa using h2
     have aK:=Za (fun w' h=>zce a2 (by have:=ap.out;unfold ErrB at this;simp only at this;omega) (by have:=ap.out;unfold ErrB at this;simp only at this;omega) w' h)
     have aF:(itoaZ a2).length<=14:=by have:=ap.out;unfold ErrB at this;simp only at this;exact zcd (by omega) (by omega)
     obtain ⟨q,hq⟩:∃q,itoaZ a2=q:=⟨_,rfl⟩
     rw [hq] at aK aF
     have aR:=Za (show ansV (st',a1,a2).2=errB++q by rw [ansV,if_pos h2,hq])
     have av:=Za aF
     clear hq aF
     have aD:=Za (show ∀wc,S<=wc.heap.size->Lib.IsBuilderF 75 5 S (S+1) (Lib.byteCells o) wc->Calls Tryz.prog 37 #[.pointer (some ⟨S+1,0,none⟩),.string ((⟨#[101,114,114,111,114,32]⟩:ByteArray)++(⟨q.toArray⟩:ByteArray)++⟨#[10]⟩)] wc (fun e w'=>e = .returned (.tuple #[.int .i64 (errB++q++[10]).length,.nilIface])/\Lib.IsBuilderF 75 5 S (S+1) (Lib.byteCells (o++(errB++q++[10]))) w'/\Below S wc w'/\Lib.OthersKept 5 (some (S+1)) wc w') from fun wc h1 h2=>by
      have e9:((⟨#[101,114,114,111,114,32]⟩:ByteArray)++(⟨q.toArray⟩:ByteArray)++⟨#[10]⟩)=⟨(errB++q++[10]).toArray⟩:=by apply ByteArray.ext;simp [errB]
      rw [e9]
      exact zoR (errB++q++[10]) h1 h2 (by have h8:=av.out;have h7:=au.out;have h6:=ar.out;simp only [Zc,errB,Zk,List.length_nil];omega))
     have hz2:¬9223372036854775807<6+q.length:=by have:=av.out;omega
     have hz3:¬9223372036854775807<6+q.length+1:=by have:=av.out;omega
     go_wp2_with (first
      | (go_at_call 34;((with_reducible refine (ad.out _ (HGL.out.ext (HE.out.trans zx))).mono ?_);rintro e w5 ⟨rfl,hq5⟩;have HX5:=Za (show Ext wr w5 from zx);clear hq5))
      | (go_at_call 35;((with_reducible refine (ay.out _ (HGL.out.ext (HE.out.trans (HX5.out.trans zx))) (ab.out.ext (HX5.out.trans zx))).mono ?_);rintro e w6 ⟨rfl,aj,af⟩;have aw:=Za aj;have aa:=Za (But.trans (But.of_ext (HX5.out.trans zx) (some S)) af);have aq:=Za (zf5 ax.out aa.out ab.out.nb (by omega));clear aj af))
      | (go_at_call 36;((with_reducible refine (aK.out _ (HGL.out.ext (az aa.out))).mono ?_);rintro e w7 ⟨rfl,aQ⟩;have aE:=Za aQ;clear aQ;have aW:=Za (aw.out.ext aE.out);have aI:=Za (But.trans aa.out (But.of_ext aE.out (some S)));have aL:=Za (zf5 aq.out (But.of_ext aE.out (some S)) aw.out.nb (by omega))))
      | (go_at_call 37;((with_reducible refine (aD.out _ (Zv (Nat.le_of_lt aO) aI.out.size) aL.out).mono ?_);rintro e w8 ⟨rfl,ah,ag,ai⟩;have aA:=Za ah;have ac:=Za ag;have aB:=Za ai;clear ah ag ai)))
     refine ⟨⟨k+1,st',o++(errB++q++[10]),by rw [HY.out],by have:=ar.out;omega,Za (aW.out.kept aL.out (by omega) ac.out.size aB.out),aA,Za (Below.trans (az aI.out) (by have h9:=ae.out;rw [h9];exact ac.out)),Za ?_,Za ?_⟩,aN.out⟩
     ·have h9:=aM.out
      rw [aR.out] at h9
      simpa using h9
     ·have h8:=av.out
      have h7:=au.out
      simp only [Zc,errB,Zk,List.length_nil]
      omega
   ·obtain rfl:k=ls.length:=by omega
    have aU:o=R:=(by have h9:=HO.out;rw [List.drop_length] at h9;simpa [outs,unlB] using h9)
    rw [List.drop_length,show unlB ([]:List (List UInt8))=[] from rfl]
    subst aU
    have aY:S<=wr.heap.size:=by have h9:=ae.out;have:=Zt HE.out;omega
    have aS:=Za (show ∀w4,Below S wr w4->Ext w w4 from fun w4 h=>by have h9:=ae.out;subst h9;exact Below.trans HE.out h)
    go_wp2_with (first
     | (go_at_call 38;((refine (Tryz.Builder_String_any_k S _ o _ ax.out aY).mono ?_);rintro e w4 ⟨rfl, -,aZ, -⟩;have aV:=Za (aS.out _ aZ))))
    go_ret2
    exact ⟨rfl,aV.out⟩
 ·have HV:=Za (show runV atoiO s=[] by rw [runV,if_pos h0])
  obtain ⟨e,he⟩:∃e,runE s=e:=⟨_,rfl⟩
  rw [he] at HC h0 ⊢
  have h1:(e==0)=false:=by simpa using h0
  clear he
  go_enter Tryz.func10,Tryz.ntmps10
  exact zsx
end Go.Proofs.YtbjgpbojjhldaaaGreatDoor
/- Slices that a call makes at once,and copies into them;elements of any size. -/
namespace Go.Proofs.YtbjgpbojjhldaaaGreatDoor
set_option maxRecDepth 100000
open Go.RowKit Go.ChangeShapes Go.WideShapes Go.Joins
section
variable {P:Program} {ops:Array Oper} {rest:List Oper} {o:Oper} {a:Act} {K:Act->World->Prop} {Q:Exit->Act->World->Prop} {E:Prop} {w wx:World}
theorem zg8 (T e:TypeId) (z:Value) (size bytes:Nat) {l:Operand} (n B:Nat) (hop:o.op = .makeSlice T l l) (ht:P.underlying T=some (.slice e)) (hinfo:(P.info? e).map (fun i=>(i.zero,i.size,i.bytes))=some (some z,size,bytes))
  (hl:a.eval l = .int .i64 (n:Int)) (hn:n<=1000000) (hby:bytes<=1000) (hB:B<=wx.heap.size)
  (h:∀w1,w1.ownsRow B e size (.slice (some ⟨wx.heap.size,0,none⟩) n n) n (madeCells z.cells (n*size)).toList->Ext wx w1->wx.heap.size<w1.heap.size->K (a.put o.dst (.slice (some ⟨wx.heap.size,0,none⟩) n n)) w1):o.wp P a wx K Q:=by
 obtain ⟨i0,hi,ab,hz1,ac⟩:=info_parts hinfo
 obtain ⟨w',aa,r1,r2⟩:=run_make_full (P:=P) wx B T e i0 z size ht hi ab hz1 .i64 .i64 n (by rw [ac];have:=Nat.mul_le_mul hby hn;omega) (by unfold maxLen;omega) hB
 unfold Oper.wp
 simp [execOp,hop,hl,aa,Result.andThen]
 refine h w' r1 (But.ext_none r2) ?_
 obtain ⟨_,h2⟩:=zas r1 wx.heap.size (by simp [Value.ownBlock])
 exact h2
theorem zav (T e:TypeId) (z:Value) (size bytes:Nat) {l:Operand} (n B:Nat) (hgd:o.guard=none) (hop:o.op = .makeSlice T l l) (ht:P.underlying T=some (.slice e)) (hinfo:(P.info? e).map (fun i=>(i.zero,i.size,i.bytes))=some (some z,size,bytes))
  (hl:a.eval l = .int .i64 (n:Int)) (hn:n<=1000000) (hby:bytes<=1000) (hB:B<=wx.heap.size)
  (h:∀w1,Hid (w1.ownsRow B e size (.slice (some ⟨wx.heap.size,0,none⟩) n n) n (madeCells z.cells (n*size)).toList)->Hid (Ext wx w1)->wx.heap.size<w1.heap.size->wpList P ops Q rest (a.put o.dst (.slice (some ⟨wx.heap.size,0,none⟩) n n)) w1):wpList P ops Q (o::rest) a wx :=
 wpList_plain hgd fun _ hK=>zg8 T e z size bytes n B hop ht hinfo hl hn hby hB fun w' h1 h2 h3=>hK _ _ (h w' h1 h2 h3)
theorem zfJ (g:Nat) (t:TypeId):∀(vs:List Value) (off:Nat) (w:World) (cur:Array Value),w.heap[g]?=some (.cells cur t (0,0))->∃cur',(w.setCells g off vs).heap[g]?=some (.cells cur' t (0,0))/\cur'.size=cur.size:=by
 intro vs
 induction vs with
 | nil=>intro off w cur h;exact ⟨cur,h,rfl⟩
 | cons v r ih =>
  intro off w cur h
  have h1:=heap_setCell_same w g off cur t v h
  obtain ⟨cur',h2,h3⟩:=ih (off+1) _ _ h1
  exact ⟨cur',h2,by rw [h3];simp⟩
theorem zbF (g:Nat):∀(vs:List Value) (off:Nat) (w:World),But (some g) w (w.setCells g off vs):=by
 intro vs
 induction vs with
 | nil=>intro off w;exact But.refl _ _
 | cons v r ih =>
  intro off w
  exact ((But.refl (some g) w).own (p:=⟨g,off,none⟩) rfl v).trans (ih (off+1) _)
end
end Go.Proofs.YtbjgpbojjhldaaaGreatDoor
/- A copy of some elements into a part of a row. -/
namespace Go.Proofs.YtbjgpbojjhldaaaGreatDoor
set_option maxRecDepth 100000
open Go.RowKit Go.ChangeShapes Go.WideShapes Go.Joins
section
variable {P:Program}
theorem zck (w:World) (dT sT ty elem:TypeId) (size m:Nat) (g o:Nat) (ad:Addr) (dn dc sn sc:Nat) (cs:List Value) (hu:P.underlying dT=some (.slice elem)) (hs:(P.info? elem).map (·.size)=some size) (hm:m=sn.min dn) (hn:cs.length=m*size)
  (hsrc:∀j v,cs[j]?=some v->w.cell? (ad.add j)=some v)
  (hc:∀j,j<cs.length->(w.cell? ⟨g,o+j,none⟩).isSome=true) (hf:∀j,j<cs.length->w.frozen? ⟨g,o+j,none⟩=false) (h1:∀v∈cs,v.oneCell'=true) :
  (Builtin.copy_ #[dT,sT] ty #[.slice (some ⟨g,o,none⟩) dn dc,.slice (some ad) sn sc]).run P w = .ok (goInt m) (w.setCells g o cs):=by
 cases hq:P.info? elem with
 | none=>simp [hq] at hs
 | some i =>
  have hi:i.size=size:=by simpa [hq] using hs
  have hl:=run_loadCells_list (P:=P) w ad cs hsrc
  have aa:=run_storeCells_cells (P:=P) g o cs 0 w (by simpa using hc) (by simpa using hf) h1
  rw [hn] at hl
  subst hm
  simp [Builtin.copy_,run_underlying hu,Builtin.lenOf,Builtin.firstCells,sizeOf,typeInfo,hq,hi,hl,aa]
end
end Go.Proofs.YtbjgpbojjhldaaaGreatDoor
/- A copy into the middle of a row that the call has made. -/
namespace Go.Proofs.YtbjgpbojjhldaaaGreatDoor
set_option maxRecDepth 100000
open Go.RowKit Go.ChangeShapes Go.WideShapes Go.Joins
section
variable {P:Program} {ops:Array Oper} {rest:List Oper} {o:Oper} {a:Act} {K:Act->World->Prop} {Q:Exit->Act->World->Prop} {E:Prop} {w wx:World}
theorem zcO {g:Nat} {t:TypeId} {w:World} {A X B cs:List Value} (h:w.heap[g]?=some (.cells (A++X++B).toArray t (0,0))) (hl:cs.length=X.length) :
  (w.setCells g A.length cs).heap[g]?=some (.cells (A++cs++B).toArray t (0,0)):=by
 obtain ⟨cur',h1,h2⟩:=zfJ g t cs A.length w _ h
 have ab:∀j,j<cs.length->(w.cell? ⟨g,A.length+j,none⟩).isSome=true:=fun j hj=>by
  rw [cell_of_row w g _ _ t (0,0) h,Array.getElem?_eq_getElem (by simp;omega)]
  rfl
 have e:cur'=(A++cs++B).toArray:=by
  apply Array.ext
  ·simp [h2,hl]
  ·intro j hj aa
   simp only [List.getElem_toArray]
   have hj3:j<A.length+X.length+B.length:=by simpa [h2,Nat.add_assoc] using hj
   have hc:(w.setCells g A.length cs).cell? ⟨g,j,none⟩=some cur'[j]:=by
    rw [cell_of_row _ g j cur' t (0,0) h1,Array.getElem?_eq_getElem hj]
   rcases ZX j A.length with h3 | h3
   ·rw [World.cell?_setCells_out g cs A.length w ⟨g,j,none⟩ (fun _ _ => .inl h3),cell_of_row w g j _ t (0,0) h] at hc
    have:(A++cs++B)[j]?=some cur'[j]:=by
     rw [<-hc]
     simp [h3,Nat.lt_add_right]
    exact (Option.some.inj (this.symm.trans (Zf (by simpa using aa))))
   ·rcases ZX j (A.length+cs.length) with h4 | h4
    ·have h5:=World.cell?_setCells_in g cs A.length w ab (j-A.length) (by omega)
     rw [show A.length+(j-A.length)=j by omega,hc] at h5
     have:(A++cs++B)[j]?=some cur'[j]:=by
      rw [h5,Zr,ZN h3,ZT (by omega),Zf (by omega)]
     exact (Option.some.inj (this.symm.trans (Zf (by simpa using aa))))
    ·rw [World.cell?_setCells_out g cs A.length w ⟨g,j,none⟩ (fun _ _ => .inr h4),cell_of_row w g j _ t (0,0) h] at hc
     have:(A++cs++B)[j]?=some cur'[j]:=by
      rw [<-hc,List.getElem?_toArray,ZN (by simp;omega),ZN (by simp;omega)]
      simp [hl]
     exact (Option.some.inj (this.symm.trans (Zf (by simpa using aa))))
 rw [h1,e]
theorem zhj (dT sT ty e:TypeId) (size:Nat) {g n B k m dn dc sn sc:Nat} {ad:Addr} {A X Y cs:List Value} (hu:P.underlying dT=some (.slice e)) (hsz:(P.info? e).map (·.size)=some size)
  (hown:wx.ownsRow B e size (.slice (some ⟨g,0,none⟩) n n) n (A++X++Y)) (hk:A.length=k) (hm:m=sn.min dn) (hl:cs.length=m*size) (hX:X.length=cs.length) (hsrc:∀j u,cs[j]?=some u->wx.cell? (ad.add j)=some u) (h1:∀v∈cs,v.oneCell'=true) :
  (Builtin.copy_ #[dT,sT] ty #[.slice (some ⟨g,k,none⟩) dn dc,.slice (some ad) sn sc]).run P wx = .ok (goInt m) (wx.setCells g k cs)/\(wx.setCells g k cs).ownsRow B e size (.slice (some ⟨g,0,none⟩) n n) n (A++cs++Y)/\But (some g) wx (wx.setCells g k cs):=by
 subst hk
 have aa:=hown.1
 have ac:∃cur,B<=g/\wx.heap[g]?=some (.cells cur e (0,0))/\n<=maxLen/\cur.size=n*size/\cur.toList.take (n*size)=A++X++Y:=by
  rcases hown.2 with ⟨h',_⟩ | ⟨g',cap',cur,h',hb,hg,hnc,ae,ab,hq⟩
  ·simp at h'
  ·simp only [Value.slice.injEq,Option.some.injEq,Addr.mk.injEq,and_true,true_and] at h'
   obtain ⟨rfl,rfl⟩:=h'
   exact ⟨cur,hb,hg,ae,ab,hq⟩
 obtain ⟨cur,hb,hg,af,ab,hq⟩:=ac
 have hcur:cur=(A++X++Y).toArray:=by
  rw [<-hq,Zs (by simp [ab])]
 subst hcur
 refine ⟨zck wx dT sT ty e size m g A.length ad dn dc sn sc cs hu hsz hm hl hsrc ?_ (fun j _=>World.ownsRow.frozenAt hown _) h1,⟨?_,.inr ⟨g,n,_,rfl,hb,zcO hg hX.symm,Zb _,af,?_,?_⟩⟩,zbF g cs A.length wx⟩
 ·intro j hj
  rw [cell_of_row wx g _ _ e (0,0) hg,Array.getElem?_eq_getElem (by simp;omega)]
  rfl
 ·simpa [hX] using aa
 ·simpa [hX] using ab
 ·refine Zs ?_
  show (A++cs++Y).length<=n*size
  simp only [Zc] at aa ⊢
  omega
end

end Go.Proofs.YtbjgpbojjhldaaaGreatDoor
