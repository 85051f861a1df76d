/- Written instructions, plain: what is written is read. -/
import Derived.Test.YtbjgpbojjhldaaaGreatDoorY04
import Derived.Test.YtbjgpbojjhldaaaGreatDoorY03
import Derived.Deep.QuietTactic
import Derived.BigQuiet
import Derived.Laws.Small
import Derived.Deep.DeepCutAuto
set_option maxHeartbeats 16000000
namespace Go.Proofs.YtbjgpbojjhldaaaGreatDoor
set_option maxRecDepth 100000
end Go.Proofs.YtbjgpbojjhldaaaGreatDoor
/- What the console answers: no line feed,and no normal answer begins as an error does. -/
namespace Go.Proofs.YtbjgpbojjhldaaaGreatDoor
set_option maxRecDepth 100000
end Go.Proofs.YtbjgpbojjhldaaaGreatDoor
/- Scripts,their lines and outputs,in plain Lean. -/
namespace Go.Proofs.YtbjgpbojjhldaaaGreatDoor
set_option maxRecDepth 100000
section
variable {at_:List UInt8->Option Int}
end
theorem znW (a b:List (List UInt8)):unlB (a++b)=unlB a++unlB b:=by
 induction a with
 | nil=>rfl
 | cons x a ih=>rw [ZM,unlB,unlB,ih,Zr,ZM]
theorem zlC:∀ {ls:List (List UInt8)},ls≠[]->unlB ls=joinB 10 ls++[10]:=by
 intro ls
 induction ls with
 | nil=>intro h;exact absurd rfl h
 | cons x ls ih =>
  intro _
  cases ls with
  | nil=>simp [unlB,joinB]
  | cons y ls=>rw [unlB,ih (by simp),joinB];simp
theorem zrF (c:UInt8):∀(s:List UInt8),(∀w∈spl c s,∀x∈w,x≠c)/\joinB c (spl c s)=s/\(spl c s).length=s.count c+1:=by
 intro s
 induction s with
 | nil=>exact ⟨fun w hw=>by simp [spl] at hw;subst hw;simp,rfl,rfl⟩
 | cons x l ih =>
  have hne:=zlg c l
  rw [spl]
  by_cases hx:x=c
  ·subst hx
   rw [if_pos rfl]
   refine ⟨fun w hw=>?_,?_,?_⟩
   ·rcases Zx.1 hw with rfl | h
    ·simp
    ·exact ih.1 w h
   ·rcases hs:spl x l with _ | ⟨y,r⟩
    ·exact absurd hs hne
    ·rw [joinB,<-hs,ih.2.1];rfl
   ·rw [Zk,ih.2.2,List.count_cons_self]
  ·rw [if_neg hx]
   rcases hs:spl c l with _ | ⟨y,r⟩
   ·exact absurd hs hne
   ·simp only
    rw [hs] at ih
    refine ⟨fun w hw=>?_,?_,?_⟩
    ·rcases Zx.1 hw with rfl | h
     ·intro z hz
      rcases Zx.1 hz with rfl | hz
      ·exact hx
      ·exact ih.1 y (by simp) z hz
     ·exact ih.1 w (by simp [h])
    ·cases r with
     | nil=>simpa [joinB] using ih.2.1
     | cons z r=>have:=ih.2.1;rw [joinB] at this ⊢;rw [<-this];rfl
    ·have h9:=ih.2.2
     rw [List.count_cons_of_ne hx,<-h9]
     rfl
theorem zqe {s:List UInt8} (h:runE s=0):unlB (lnsB s)=s/\(∀w∈lnsB s,∀x∈w,x≠10)/\(lnsB s).length=s.count 10/\s.length<=20000/\s.count 10<=200:=by
 unfold runE at h
 split at h
 ·omega
 ·rename_i h1
  have hb:s.length<=20000/\s.count 10<=200:=by omega
  split at h
  ·omega
  ·rename_i h2
   by_cases hs:s=[]
   ·subst hs
    exact ⟨rfl,by simp [lnsB],rfl,hb⟩
   ·have hl:s.getLast?=some 10:=by
     rcases hg:decide (s.getLast?=some 10) with _ | _
     ·exact absurd ⟨hs,by simpa using hg⟩ h2
     ·simpa using hg
    obtain ⟨t,e⟩:=List.getLast?_eq_some_iff.1 hl
    subst e
    obtain ⟨g1,g2,g3⟩:=zrF 10 t
    have hd:lnsB (t++[10])=spl 10 t:=by rw [lnsB,if_neg (by simp),List.dropLast_concat]
    rw [hd]
    refine ⟨by rw [zlC (zlg 10 t),g2],g1,?_,hb⟩
    rw [g3,List.count_append]
    simp
end Go.Proofs.YtbjgpbojjhldaaaGreatDoor
/- Single commands in plain Lean. -/
namespace Go.Proofs.YtbjgpbojjhldaaaGreatDoor
set_option maxRecDepth 100000
theorem zo7 {c:UInt8} {w r:List UInt8} (h:c ∉ w):cutF c (w++c::r)=(w,r,true):=by
 induction w with
 | nil=>simp [cutF]
 | cons x w ih =>
  have h1:¬x=c:=fun e=>h (by simp [e])
  rw [ZM,cutF,if_neg h1,ih (fun e=>h (by simp [e]))]
section
variable {at_:List UInt8->Option Int} (hat:∀n:Int, -9999999<=n->n<=9999999->at_ (itoaZ n)=some n)
include hat
end
section
variable {at_:List UInt8->Option Int} (hat:∀n:Int, -9999999<=n->n<=9999999->at_ (itoaZ n)=some n)
include hat
end
end Go.Proofs.YtbjgpbojjhldaaaGreatDoor
/- strings.Builder: WriteString,laid by hand (the kit's tool passes over it: no body of the closure names the types string and interface). -/
namespace Go.Proofs.YtbjgpbojjhldaaaGreatDoor
set_option maxRecDepth 100000
open Go.RowKit Go.Shelf
def bldRen:Go.Shelf.Ren:=⟨fun | 166=>37 | 240=>72 | 276=>122 | n=>n,fun | 0=>0 | 3=>3 | 4=>4 | 5=>5 | 9=>9 | 20=>20 | 37=>73 | 70=>72 | 72=>75 | 75=>79 | 80=>82 | 164=>179 | n=>n,fun | n=>n⟩
theorem zjf:Lays.n166 Tryz.prog bldRen where
 mixed:=by kernel_rfl
 f166:=Tryz.func37.trans (congrArg some (by kernel_rfl))
 f240:=Tryz.func72.trans (congrArg some (by kernel_rfl))
 f276:=Tryz.func122.trans (congrArg some (by kernel_rfl))
 t0:=Tryz.underlying0
 a0:=Tryz.isAgg0
 z0:=Tryz.sizeOf0
 v0:=Tryz.zeroValue0
 t3:=Tryz.underlying3
 a3:=Tryz.isAgg3
 z3:=Tryz.sizeOf3
 v3:=Tryz.zeroValue3
 t4:=Tryz.underlying4
 a4:=Tryz.isAgg4
 z4:=Tryz.sizeOf4
 v4:=Tryz.zeroValue4
 t9:=Tryz.underlying9
 a9:=Tryz.isAgg9
 z9:=Tryz.sizeOf9
 v9:=Tryz.zeroValue9
 t20:=Tryz.underlying20
 a20:=Tryz.isAgg20
 z20:=Tryz.sizeOf20
 v20:=Tryz.zeroValue20
 t37:=Tryz.underlying73
 a37:=Tryz.isAgg73
 z37:=Tryz.sizeOf73
 v37:=Tryz.zeroValue73
 t70:=Tryz.underlying72
 a70:=Tryz.isAgg72
 z70:=Tryz.sizeOf72
 v70:=Tryz.zeroValue72
 t72:=Tryz.underlying75
 a72:=Tryz.isAgg75
 z72:=Tryz.sizeOf75
 v72:=Tryz.zeroValue75
 t75:=Tryz.underlying79
 a75:=Tryz.isAgg79
 z75:=Tryz.sizeOf79
 v75:=Tryz.zeroValue79
 t164:=Tryz.underlying179
 a164:=Tryz.isAgg179
 z164:=Tryz.sizeOf179
 v164:=Tryz.zeroValue179
theorem zss:Builder.Extra Tryz.prog bldRen where
 sizeBuilder:=by kernel_rfl
 liesBuilder:=by kernel_rfl
 t5:=Tryz.underlying5
 a5:=Tryz.isAgg5
 z5:=Tryz.sizeOf5
 v5:=Tryz.zeroValue5
 infoByte:=by kernel_rfl
 cellsByte:=by kernel_rfl
 sizeByte:=by kernel_rfl
 neB5:=by decide
theorem zoZ {T e:TypeId} {B b:Nat} {bs:List Value} {w w':World} (h:Lib.IsBuilderF T e B b bs w) (hb:Ext w w'):Lib.IsBuilderF T e B b bs w':=by
 have key:∀(k:Nat) (o:Obj),w.heap[k]?=some o->w'.heap[k]?=some o:=fun k o hk=>by
  rw [hb.block k (Zh.1 hk).1]
  exact hk
 have at_:∀p,Lib.BuilderAtF T e B b p bs w->Lib.BuilderAtF T e B b p bs w':=fun p ⟨hB,v,hbk,hown,hne⟩ =>
  ⟨hB,v,key _ _ hbk,⟨hown.1,hown.2.imp id fun ⟨g,cap,cur,fz,a,c,d,r⟩=>⟨g,cap,cur,fz,a,c,key _ _ d,r⟩⟩,hne⟩
 exact h.elim (fun x => .inl (at_ _ x)) (fun x => .inr (at_ _ x))
theorem zf6 (w:World) (T e:TypeId) (B:Nat) (hB:B<=w.heap.size):Lib.IsBuilderF T e B w.heap.size (Lib.byteCells []) (w.alloc (.cells #[.pointer none,.slice none 0 0] T)) :=
 .inl ⟨hB,.slice none 0 0,heap_alloc_new w _,⟨by simp [Lib.byteCells],.inl ⟨rfl,rfl⟩⟩,by simp [Value.ownBlock]⟩
end Go.Proofs.YtbjgpbojjhldaaaGreatDoor
/- strings.Builder: WriteByte,laid by hand as WriteString is;what both leave as it was;a builder that a call writes to. -/
namespace Go.Proofs.YtbjgpbojjhldaaaGreatDoor
set_option maxRecDepth 100000
open Go.RowKit Go.Shelf
def bytRen:Go.Shelf.Ren:=⟨fun | 167=>93 | 240=>72 | 276=>122 | n=>n,fun | 0=>0 | 3=>3 | 4=>4 | 5=>5 | 9=>9 | 20=>20 | 37=>73 | 70=>72 | 72=>75 | 75=>79 | 80=>82 | 164=>179 | n=>n,fun | n=>n⟩
theorem zo1:Lays.n167 Tryz.prog bytRen where
 mixed:=by kernel_rfl
 f167:=Tryz.func93.trans (congrArg some (by kernel_rfl))
 f240:=Tryz.func72.trans (congrArg some (by kernel_rfl))
 f276:=Tryz.func122.trans (congrArg some (by kernel_rfl))
 t0:=Tryz.underlying0
 a0:=Tryz.isAgg0
 z0:=Tryz.sizeOf0
 v0:=Tryz.zeroValue0
 t4:=Tryz.underlying4
 a4:=Tryz.isAgg4
 z4:=Tryz.sizeOf4
 v4:=Tryz.zeroValue4
 t5:=Tryz.underlying5
 a5:=Tryz.isAgg5
 z5:=Tryz.sizeOf5
 v5:=Tryz.zeroValue5
 t9:=Tryz.underlying9
 a9:=Tryz.isAgg9
 z9:=Tryz.sizeOf9
 v9:=Tryz.zeroValue9
 t20:=Tryz.underlying20
 a20:=Tryz.isAgg20
 z20:=Tryz.sizeOf20
 v20:=Tryz.zeroValue20
 t37:=Tryz.underlying73
 a37:=Tryz.isAgg73
 z37:=Tryz.sizeOf73
 v37:=Tryz.zeroValue73
 t70:=Tryz.underlying72
 a70:=Tryz.isAgg72
 z70:=Tryz.sizeOf72
 v70:=Tryz.zeroValue72
 t72:=Tryz.underlying75
 a72:=Tryz.isAgg75
 z72:=Tryz.sizeOf75
 v72:=Tryz.zeroValue75
 t75:=Tryz.underlying79
 a75:=Tryz.isAgg79
 z75:=Tryz.sizeOf79
 v75:=Tryz.zeroValue79
 t164:=Tryz.underlying179
 a164:=Tryz.isAgg179
 z164:=Tryz.sizeOf179
 v164:=Tryz.zeroValue179
theorem zsD:Builder.Extra Tryz.prog bytRen where
 sizeBuilder:=by kernel_rfl
 liesBuilder:=by kernel_rfl
 t5:=Tryz.underlying5
 a5:=Tryz.isAgg5
 z5:=Tryz.sizeOf5
 v5:=Tryz.zeroValue5
 infoByte:=by kernel_rfl
 cellsByte:=by kernel_rfl
 sizeByte:=by kernel_rfl
 neB5:=by decide
structure WSt (W0 w0:World) (b:Nat) (l:List UInt8) (w:World):Prop where
 bl:Lib.IsBuilderF 75 5 W0.heap.size b (Lib.byteCells l) w
 ex:Ext W0 w
 kp:Lib.OthersKept 5 (some b) w0 w
theorem zmJ {e:TypeId} {b:Option Nat} {w w':World} (h:Ext w w'):Lib.OthersKept e b w w':=fun k o hk _ _=>by
 rw [h.block k (Zh.1 hk).1]
 exact hk
theorem WSt.ext {W0 w0 w w':World} {b:Nat} {l:List UInt8} (h:WSt W0 w0 b l w) (hb:Ext w w'):WSt W0 w0 b l w':=⟨zoZ h.bl hb,h.ex.trans hb,h.kp.trans (zmJ hb)⟩
theorem WSt.base {W0 w0 w1 w:World} {b:Nat} {l:List UInt8} (h:WSt W0 w1 b l w) (k:Lib.OthersKept 5 (some b) w0 w1):WSt W0 w0 b l w:=⟨h.bl,h.ex,k.trans h.kp⟩
theorem WSt.here {W0 w0 w:World} {b:Nat} {l:List UInt8} (h:WSt W0 w0 b l w):WSt W0 w b l w:=⟨h.bl,h.ex,Lib.OthersKept.refl _ _ _⟩
theorem zbz (l:List UInt8):(Lib.byteCells l).length=l.length:=by simp [Lib.byteCells]
theorem zcH {W0 w0 w:World} {b:Nat} {l:List UInt8} (x:UInt8) (c:Int) (hc:(x.toNat:Int)=c) (h:WSt W0 w0 b l w) (hl:l.length<=1000000000) :
  Calls Tryz.prog 93 #[.pointer (some ⟨b,0,none⟩),.int .u8 c] w fun e w'=>e = .returned .nilIface/\WSt W0 w0 b (l++[x]) w':=by
 subst hc
 refine (Any.Builder_WriteByte_k zo1 zsD W0.heap.size b (Lib.byteCells l) (x.toNat:Int) w h.bl (by rw [zbz];omega) (Zt h.ex)).mono ?_
 rintro e w' ⟨rfl,h2,h3,h4⟩
 refine ⟨rfl,.inr ?_,Below.trans h.ex h3,h.kp.trans h4⟩
 have e:Lib.byteCells (l++[x])=Lib.byteCells l++[.int .u8 (x.toNat:Int)]:=by simp [Lib.byteCells]
 rw [e]
 exact h2
theorem zr2 {W0 w0 w:World} {b:Nat} {l:List UInt8} (x:List UInt8) (h:WSt W0 w0 b l w) (hl:l.length+x.length<=1000000000) :
  Calls Tryz.prog 37 #[.pointer (some ⟨b,0,none⟩),.string ⟨x.toArray⟩] w fun e w'=>e = .returned (.tuple #[.int .i64 x.length,.nilIface])/\WSt W0 w0 b (l++x) w':=by
 have h1:=Any.Builder_WriteString_k zjf zss W0.heap.size b (Lib.byteCells l) ⟨x.toArray⟩ w h.bl (by rw [zbz,show (⟨x.toArray⟩:ByteArray).size=x.length by simp [ByteArray.size]];omega) (Zt h.ex)
 refine h1.mono ?_
 rintro e w' ⟨rfl,h2,h3,h4⟩
 refine ⟨by simp [ByteArray.size],.inr ?_,Below.trans h.ex h3,h.kp.trans h4⟩
 have e:Lib.byteCells (l++x)=Lib.byteCells l++Lib.strCells ⟨x.toArray⟩:=by simp [Lib.byteCells,Lib.strCells]
 rw [e]
 exact h2
end Go.Proofs.YtbjgpbojjhldaaaGreatDoor
/- Lists of terms in memory. -/
namespace Go.Proofs.YtbjgpbojjhldaaaGreatDoor
set_option maxRecDepth 100000
open Go.RowKit Go.ChangeShapes Go.WideShapes Go.Joins
def TAt (w:World):Tms->Nat->Nat->Prop
 | .nil,_,_=>True
 | .cons N c g r,b,off=>∃(A:Option Addr) (n cap:Nat),w.cell? ⟨b,off,none⟩=some (.int .i64 N)/\w.cell? ⟨b,off+1,none⟩=some (.int .u8 c.k)/\w.cell? ⟨b,off+2,none⟩=some (.bool c.p) /\
   w.cell? ⟨b,off+3,none⟩=some (.int .i64 c.a)/\w.cell? ⟨b,off+4,none⟩=some (.int .i64 c.b)/\w.cell? ⟨b,off+5,none⟩=some (.slice A n cap)/\(0<=c.k/\c.k<=255) /\
   g.cnt=n/\n<=maxLen/\(0<n->∃b' off',A=some ⟨b',off',none⟩/\b'<w.heap.size/\TAt w g b' off')/\TAt w r b (off+6)
def Tv (w:World) (A:Option Addr) (n:Nat) (t:Tms):Prop:=t.cnt=n/\n<=maxLen/\(0<n->∃b off,A=some ⟨b,off,none⟩/\b<w.heap.size/\TAt w t b off)
theorem TAt.ext {w w':World} (hb:Ext w w'):∀ {t:Tms} {b off:Nat},b<w.heap.size->TAt w t b off->TAt w' t b off:=by
 intro t
 induction t with
 | nil=>intro b off _ _;trivial
 | cons N c g r ih1 ih2 =>
  intro b off hlt ⟨A,n,cap,h0,h1,h2,h3,h4,h5,hk,hn,hm,hg,hr⟩
  have hc:∀o,w'.cell? ⟨b,o,none⟩=w.cell? ⟨b,o,none⟩:=fun o=>Zl (p:=⟨b,o,none⟩) hb hlt
  refine ⟨A,n,cap,(hc _).trans h0,(hc _).trans h1,(hc _).trans h2,(hc _).trans h3,(hc _).trans h4,(hc _).trans h5,hk,hn,hm,fun h=>?_,ih2 hlt hr⟩
  obtain ⟨b',off',e,aa,ab⟩:=hg h
  exact ⟨b',off',e,Zi aa (Zt hb),ih1 aa ab⟩
theorem Tv.ext {w w':World} {A:Option Addr} {n:Nat} {t:Tms} (h:Tv w A n t) (hb:Ext w w'):Tv w' A n t :=
 ⟨h.1,h.2.1,fun hn=>by
  obtain ⟨b,off,e,hlt,hc⟩:=h.2.2 hn
  exact ⟨b,off,e,Zi hlt (Zt hb),TAt.ext hb hlt hc⟩⟩
theorem Tv.none_ (w:World) (A:Option Addr):Tv w A 0 .nil:=⟨rfl,by unfold maxLen;omega,fun h=>absurd h (by omega)⟩
theorem zbc {t:Tms} (h:t.cnt=0):t = .nil:=by
 cases t with
 | nil=>rfl
 | cons=>simp [Tms.cnt] at h
theorem TAt.head {w:World} {N:Int} {c:St} {g r:Tms} {b off:Nat} (h:TAt w (.cons N c g r) b off) :
  ∃(A:Option Addr) (n cap:Nat),w.cell? ⟨b,off,none⟩=some (.int .i64 N)/\w.cell? ⟨b,off+1,none⟩=some (.int .u8 c.k)/\w.cell? ⟨b,off+2,none⟩=some (.bool c.p) /\
   w.cell? ⟨b,off+3,none⟩=some (.int .i64 c.a)/\w.cell? ⟨b,off+4,none⟩=some (.int .i64 c.b)/\w.cell? ⟨b,off+5,none⟩=some (.slice A n cap)/\(0<=c.k/\c.k<=255)/\Tv w A n g/\TAt w r b (off+6):=by
 obtain ⟨A,n,cap,h0,h1,h2,h3,h4,h5,hk,hn,hm,hg,hr⟩:=h
 exact ⟨A,n,cap,h0,h1,h2,h3,h4,h5,hk,⟨hn,hm,hg⟩,hr⟩
section
variable {H:Type} {enc:TypeId×Value->H} {w:World} {base:Nat} {spare:Nat->Bool} {held:Bool}
end
end Go.Proofs.YtbjgpbojjhldaaaGreatDoor
/- The walks of the checks of terms: size. -/
namespace Go.Proofs.YtbjgpbojjhldaaaGreatDoor
set_option maxRecDepth 100000
open Go.RowKit Go.ChangeShapes Go.WideShapes Go.Joins
theorem zb1 {t:Tms} (h:0<t.cnt):∃N c g r,t = .cons N c g r:=by
 cases t with
 | nil=>simp [Tms.cnt] at h
 | cons N c g r=>exact ⟨N,c,g,r,rfl⟩
theorem za8:∀t:Tms,t.cnt<=t.size:=by
 intro t
 induction t with
 | nil=>simp [Tms.cnt]
 | cons N c g r h1 h2=>simp [Tms.cnt,Tms.size];omega
theorem zhk:∀t:Tms,t.depth<=t.size:=by
 intro t
 induction t with
 | nil=>simp [Tms.depth,Tms.size]
 | cons N c g r h1 h2=>simp [Tms.depth,Tms.size];omega
theorem zkY {P:Program} {w:World} (ts:Array TypeId) (t:TypeId) (x y:Int):(Builtin.max_ ts t #[.int .i64 x,.int .i64 y]).run P w = .ok (.int .i64 (max x y)) w:=by
 rw [run_max_int2]
 congr 2
 split <;> omega
theorem zcl {P:Program} {w:World} (ts:Array TypeId) (t:TypeId) (x y:Int):(Builtin.min_ ts t #[.int .i64 x,.int .i64 y]).run P w = .ok (.int .i64 (min x y)) w:=by
 rw [run_min_int2]
 congr 2
 split <;> omega
theorem zcn:∀(M:Nat),M<=5000->∀(t:Tms),t.size<=M->∀(A:Option Addr) (n cap:Nat) (w:World),Tv w A n t ->
  Calls Tryz.prog 90 #[.slice A n cap] w fun e w'=>e = .returned (.tuple #[.int .i64 (szM t),.int .i64 t.depth])/\Ext w w':=by
 intro M
 induction M using Nat.strongRecOn with
 | ind M ih =>
  intro hM t ht A n cap w hv
  have HI:=Za ih
  have HV:=Za hv
  have hnm:n<=5000:=by have h1:=hv.1;have h2:=za8 t;omega
  clear ih hv
  go_enter Tryz.func90,Tryz.ntmps90
  go_wp2_with fail
  go_loopw [2,3,10] (fun u d i wr=>∃(k:Nat) (U:Int) (D:Nat) (rest:Tms),i = .int .i64 k/\u = .int .i64 U/\d = .int .i64 D/\rest.cnt+k=n/\rest.size<=M/\(0<=U/\U<=201)/\D<=5000 /\
   Hid (min (U+rest.size) 201=szM t/\max D rest.depth=t.depth/\Ext w wr/\(0<rest.cnt->∃b off,A=some ⟨b,off,none⟩/\b<wr.heap.size/\TAt wr rest b (off+k*6)))) (fun _ _ i _=>n-(intOf i).toNat)
  case atStart =>
   refine ⟨0,0,0,t,rfl,rfl,rfl,by have:=HV.out.1;omega,ht,by omega,by omega,Za ⟨by simp [szM],by simp,Ze _,fun h=>?_⟩⟩
   obtain ⟨h1,h2,h3⟩:=HV.out
   obtain ⟨b,off,e,hb,hc⟩:=h3 (by omega)
   exact ⟨b,off,e,hb,by simpa using hc⟩
  case round =>
   obtain ⟨k,U,D,rest,rfl,rfl,rfl,ab,ag,⟨hU0,hU1⟩,hD,HH⟩:=hrel
   by_cases hlt:0<rest.cnt
   ·obtain ⟨N,c,g,r,rfl⟩:=zb1 hlt
    obtain ⟨b,off,rfl,hb1,hc⟩:=HH.out.2.2.2 hlt
    obtain ⟨A',n',cap',c0,c1,c2,c3,c4,c5,hkk,hg,hr⟩:=hc.head
    have hxr:=HH.out.2.2.1
    simp only [Tms.cnt,Tms.size] at ab ag
    have hkn:k<n:=by omega
    have hz:=Zn wr _ c0
    have aa:=fun (w':World) (h:Ext wr w')=>HI.out (M-1) (by omega) (by omega) g (by omega) A' n' cap' w' (hg.ext h)
    have HC:=Za aa
    clear aa hc
    have ae:0<=szM g/\szM g<=201:=by unfold szM;omega
    have hgs:min (g.size:Int) 201=szM g:=rfl
    have hgd:=zhk g
    have ah:(Tms.cons N c g r).size=1+g.size+r.size:=rfl
    have ad:(Tms.cons N c g r).depth=max (g.depth+1) r.depth:=rfl
    have m1:∀(ts:Array TypeId) (t:TypeId) (w:World),(Builtin.min_ ts t #[.int .i64 (U+1+szM g),.int .i64 201]).run Tryz.prog w = .ok (.int .i64 (min (U+1+szM g) 201)) w:=fun ts t w=>zcl ts t _ _
    have m2:∀(ts:Array TypeId) (t:TypeId) (w:World),(Builtin.max_ ts t #[.int .i64 D,.int .i64 ((g.depth:Int)+1)]).run Tryz.prog w = .ok (.int .i64 (max (D:Int) ((g.depth:Int)+1))) w:=fun ts t w=>zkY ts t _ _
    go_wp2_with (go_at_call 90;((with_reducible refine (HC.out _ zx).mono ?_);rintro e w1 ⟨rfl,hq1⟩))
    go_roundw
    case rel =>
     have ac:Ext wr w1:=zx
     obtain ⟨e1,e2,e3, -⟩:=HH.out
     rw [ah] at e1
     rw [ad] at e2
     have q1:min (min (U+1+szM g) 201+(r.size:Int)) 201=szM t:=by rw [<-e1,<-(show min (g.size:Int) 201=szM g from rfl)];omega
     have q2:max (max D (g.depth+1)) r.depth=t.depth:=by rw [<-e2];omega
     have q3:g.depth<=g.size:=zhk g
     have q4:0<=szM g:=ae.1
     refine ⟨k+1,min (U+1+szM g) 201,max D (g.depth+1),r,by go_num,rfl,?_,by omega,by omega,by omega,by omega,Za ⟨q1,q2,e3.trans ac,fun h=>?_⟩⟩
     ·rw [show ((max D (g.depth+1):Nat):Int)=max (D:Int) ((g.depth:Int)+1) by omega]
     ·refine ⟨b,off,rfl,Zi hb1 (Zt ac),?_⟩
      rw [show off+(k+1)*6=off+k*6+6 by omega]
      exact hr.ext ac hb1
    case measure=>simp [intOf];omega
   ·have af:rest.cnt=0:=by omega
    obtain rfl:=zbc af
    simp only [Tms.cnt] at ab
    obtain ⟨e1,e2,e3, -⟩:=HH.out
    simp only [Tms.size,Tms.depth] at e1 e2
    obtain rfl:k=n:=by omega
    go_wp2
    go_ret2
    have q1:szM t=U:=by rw [<-e1];omega
    have q2:t.depth=D:=by rw [<-e2];omega
    rw [q1,q2]
    exact ⟨rfl,zx⟩
end Go.Proofs.YtbjgpbojjhldaaaGreatDoor
/- The walks of the reference's Deep. -/
namespace Go.Proofs.YtbjgpbojjhldaaaGreatDoor
set_option maxRecDepth 100000
open Go.RowKit Go.ChangeShapes Go.WideShapes Go.Joins
end Go.Proofs.YtbjgpbojjhldaaaGreatDoor
/- The walk of the reference's Terms. -/
namespace Go.Proofs.YtbjgpbojjhldaaaGreatDoor
set_option maxRecDepth 100000
open Go.RowKit Go.ChangeShapes Go.WideShapes Go.Joins
end Go.Proofs.YtbjgpbojjhldaaaGreatDoor
/- The walks of length and long. -/
namespace Go.Proofs.YtbjgpbojjhldaaaGreatDoor
set_option maxRecDepth 100000
open Go.RowKit Go.ChangeShapes Go.WideShapes Go.Joins
theorem zox {x a b:Int} (h:inR x a b=true):a<=x/\x<=b:=by simpa [inR] using h
theorem zb5 {N:Int} {c:St} {g r:Tms} (h:fineT (.cons N c g r)=true):(1<=N/\N<=200)/\fineT g=true/\fineT r=true:=by
 by_cases hg:g = .nil
 ·subst hg
  rw [zaT] at h
  simp only [Zp] at h
  exact ⟨zox h.1.1,rfl,h.2⟩
 ·rw [zaS _ _ _ _ hg] at h
  simp only [Zp] at h
  exact ⟨zox h.1.1.1,h.1.2,h.2⟩
theorem zq6:∀ {t:Tms},fineT t=true->∀ {m:Int},0<=m->m<=201->0<=lenT t m/\lenT t m<=201:=by
 intro t
 induction t with
 | nil=>intro _ m h0 h1;exact ⟨h0,h1⟩
 | cons N c g r ih1 ih2 =>
  intro h m h0 h1
  obtain ⟨hN,hg,hr⟩:=zb5 h
  by_cases e:g = .nil
  ·subst e
   rw [zgA]
   exact ih2 hr (by omega) (by omega)
  ·rw [zgz _ _ _ _ _ e]
   obtain ⟨a,b⟩:=ih1 hg (m:=0) (by omega) (by omega)
   have:=Int.mul_nonneg a (show (0:Int)<=N by omega)
   exact ih2 hr (by omega) (by omega)
theorem zd9:∀(M:Nat),M<=5000->∀(t:Tms),t.size<=M->fineT t=true->∀(A:Option Addr) (n cap:Nat) (w:World),Tv w A n t ->
  Calls Tryz.prog 92 #[.slice A n cap] w fun e w'=>e = .returned (.int .i64 (lenT t 0))/\Ext w w':=by
 intro M
 induction M using Nat.strongRecOn with
 | ind M ih =>
  intro hM t ht hf A n cap w hv
  have HI:=Za ih
  have HV:=Za hv
  have hnm:n<=5000:=by have h1:=hv.1;have h2:=za8 t;omega
  clear ih hv
  go_enter Tryz.func92,Tryz.ntmps92
  go_wp2_with fail
  go_loopw [3,9] (fun u i wr=>∃(k:Nat) (U:Int) (rest:Tms),i = .int .i64 k/\u = .int .i64 U/\rest.cnt+k=n/\rest.size<=M/\(0<=U/\U<=201) /\
   Hid (fineT rest=true/\lenT rest U=lenT t 0/\Ext w wr/\(0<rest.cnt->∃b off,A=some ⟨b,off,none⟩/\b<wr.heap.size/\TAt wr rest b (off+k*6)))) (fun _ i _=>n-(intOf i).toNat)
  case atStart =>
   refine ⟨0,0,t,rfl,rfl,by have:=HV.out.1;omega,ht,by omega,Za ⟨hf,rfl,Ze _,fun h=>?_⟩⟩
   obtain ⟨h1,h2,h3⟩:=HV.out
   obtain ⟨b,off,e,hb,hc⟩:=h3 (by omega)
   exact ⟨b,off,e,hb,by simpa using hc⟩
  case round =>
   obtain ⟨k,U,rest,rfl,rfl,ab,am,⟨hU0,hU1⟩,HH⟩:=hrel
   by_cases hlt:0<rest.cnt
   ·obtain ⟨N,c,g,r,rfl⟩:=zb1 hlt
    obtain ⟨b,off,rfl,hb1,hc⟩:=HH.out.2.2.2 hlt
    obtain ⟨A',n',cap',c0,c1,c2,c3,c4,c5,hkk,hg,hr⟩:=hc.head
    obtain ⟨⟨hN0,ah⟩,ac,ae⟩:=zb5 HH.out.1
    have hxr:=HH.out.2.2.1
    simp only [Tms.cnt,Tms.size] at ab am
    have hkn:k<n:=by omega
    have hz:=Zn wr _ c0
    have aa:=fun (w':World) (h:Ext wr w')=>HI.out (M-1) (by omega) (by omega) g (by omega) ac A' n' cap' w' (hg.ext h)
    have HC:=Za aa
    have aj:=hg.1
    have HF:=Za ae
    clear aa hc
    by_cases hn':0<n'
    ·have ai:g ≠ .nil:=by rintro rfl;simp [Tms.cnt] at aj;omega
     have HL:=Za (zgz N c g r U ai)
     obtain ⟨af,ag⟩:=zq6 ac (m:=0) (by omega) (by omega)
     have HN:=Za ac
     clear ac ae
     generalize hLL:lenT g 0=L at *
     have hp0:0<=L*N:=Int.mul_nonneg af (by omega)
     have hp1:L*N<=201*200:=Int.mul_le_mul ag ah (by omega) (by omega)
     have m1:∀(ts:Array TypeId) (t:TypeId) (w:World),(Builtin.min_ ts t #[.int .i64 (U+L*N),.int .i64 201]).run Tryz.prog w = .ok (.int .i64 (min (U+L*N) 201)) w:=fun ts t w=>zcl ts t _ _
     have f1:=Zj (L*N) (by omega)
     have f2:=Zj (U+L*N) (by omega)
     go_wp2_with (go_at_call 92;((with_reducible refine (HC.out _ zx).mono ?_);rintro e w1 ⟨rfl,al⟩;obtain ⟨hf1,hf2,hf3⟩:=al.facts))
     go_roundw
     case rel =>
      have ad:Ext wr w1:=zx
      obtain ⟨_,e2,e3, -⟩:=HH.out
      rw [HL.out] at e2
      refine ⟨k+1,min (U+L*N) 201,r,by go_num,by go_num,by omega,by omega,by omega,Za ⟨HF.out,e2,e3.trans ad,fun h=>?_⟩⟩
      refine ⟨b,off,rfl,Zi hb1 (Zt ad),?_⟩
      rw [show off+(k+1)*6=off+k*6+6 by omega]
      exact hr.ext ad hb1
     case measure=>simp [intOf];omega
    ·obtain rfl:=zbc (t:=g) (by omega)
     obtain rfl:n'=0:=by omega
     have HL:=Za (zgA N c r U)
     have m1:∀(ts:Array TypeId) (t:TypeId) (w:World),(Builtin.min_ ts t #[.int .i64 (U+1*N),.int .i64 201]).run Tryz.prog w = .ok (.int .i64 (min (U+1*N) 201)) w:=fun ts t w=>zcl ts t _ _
     have m2:∀(ts:Array TypeId) (t:TypeId) (w:World),(Builtin.min_ ts t #[.int .i64 (U+N),.int .i64 201]).run Tryz.prog w = .ok (.int .i64 (min (U+N) 201)) w:=fun ts t w=>zcl ts t _ _
     go_wp2_with fail
     go_roundw
     case rel =>
      obtain ⟨_,e2,e3, -⟩:=HH.out
      rw [HL.out] at e2
      refine ⟨k+1,min (U+1*N) 201,r,by go_num,by first | go_num | simp,by omega,by omega,by omega,Za ⟨HF.out,e2,by first | exact e3 | exact e3.alloc _ ,fun h=>?_⟩⟩
      refine ⟨b,off,rfl,by first | exact hb1 | exact Zi hb1 (Zt ((Ze wr).alloc _)),?_⟩
      rw [show off+(k+1)*6=off+k*6+6 by omega]
      first | exact hr | exact hr.ext ((Ze wr).alloc _) hb1
     case measure=>simp [intOf];omega
   ·have ak:rest.cnt=0:=by omega
    obtain rfl:=zbc ak
    simp only [Tms.cnt] at ab
    obtain ⟨_,e2,e3, -⟩:=HH.out
    obtain rfl:k=n:=by omega
    have q2:lenT t 0=U:=e2.symm
    go_wp2
    go_ret
    first | exact ⟨rfl,zx⟩ | (rw [q2];exact ⟨rfl,zx⟩)
end Go.Proofs.YtbjgpbojjhldaaaGreatDoor
