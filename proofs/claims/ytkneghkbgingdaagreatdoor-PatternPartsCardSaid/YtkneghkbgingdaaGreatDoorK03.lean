/- Lists of stitches in memory. -/
import Derived.Test.YtkneghkbgingdaaGreatDoorRows
import Derived.Test.YtkneghkbgingdaaGreatDoorK02
import Derived.OpenShut
import Derived.Laws.StructEq
import Derived.Lib.SmallJoins
import Derived.Deep.QuietTactic
import Derived.BigQuiet
import Derived.Laws.Small
import Derived.Deep.DeepCutAuto
set_option maxHeartbeats 16000000
namespace Go.Proofs.YtkneghkbgingdaaGreatDoor
set_option maxRecDepth 100000
open Go.RowKit Go.ChangeShapes Go.WideShapes Go.Joins
def stc (s:St):List Value:=[.int .u8 s.k,.bool s.p,.int .i64 s.a,.int .i64 s.b]
def shSt:Shp St where
 size:=4
 cells:=stc
 pos:=by omega
 len _:=rfl
 one p u h:=by
  simp [stc] at h
  rcases h with h | h | h | h <;> subst h <;> rfl
theorem za7:(Tryz.prog.info? 132).map (fun i=>(i.zero,i.size,i.bytes))=some (some (.agg #[.int .u8 0,.bool false,.int .i64 0,.int .i64 0]),4,24):=by kernel_rfl
theorem Sts.all {w:World} {A:Option Addr} {n:Nat} {xs:List St} (h:Vec shSt w A n xs) (hn:0<n) :
  ∃b off,A=some ⟨b,off,none⟩∧b<w.heap.size∧∀k,k<n→w.cell? ⟨b,off+k*4,none⟩=some (.int .u8 (xs.getD k st0).k)∧w.cell? ⟨b,off+k*4+1,none⟩=some (.bool (xs.getD k st0).p) ∧
   w.cell? ⟨b,off+k*4+2,none⟩=some (.int .i64 (xs.getD k st0).a)∧w.cell? ⟨b,off+k*4+3,none⟩=some (.int .i64 (xs.getD k st0).b):=by
 obtain ⟨b,off,e,hb,hc⟩:=h.2 hn
 have hl:=h.1
 refine ⟨b,off,e,hb,fun k hk=>?_⟩
 have hx:=zob (l:=xs) (k:=k) (by omega)
 exact ⟨hc k _ hx 0 _ rfl,hc k _ hx 1 _ rfl,hc k _ hx 2 _ rfl,hc k _ hx 3 _ rfl⟩
theorem zaA (x:Int) (y:Bool) (z t x':Int) (y':Bool) (z' t':Int) (w:World) :
  (Op.equalIn 10000 132 (.agg #[.int .u8 x,.bool y,.int .i64 z,.int .i64 t]) (.agg #[.int .u8 x',.bool y',.int .i64 z',.int .i64 t'])).run Tryz.prog w = .ok (x==x' && (y==y' && (z==z' && t==t'))) w:=by
 rw [run_equalIn_agg (P:=Tryz.prog) w 9999 132 _ _ (by kernel_rfl) (by kernel_rfl)]
 simp [Op.eqFields,Program.fieldsOf,Tryz.underlying132,go_sem,part,Tryz.underlying5,Tryz.underlying4,Tryz.underlying3]
 by_cases h1:x=x' <;> by_cases h2:y=y' <;> by_cases h3:z=z' <;> by_cases h4:t=t' <;> simp [h1,h2,h3,h4]
theorem zoJ {p:Prop} (h:p:=by
 have:(x==x' && (y==y' && (z==z' && t==t')))=false:=by
  cases e:(x==x' && (y==y' && (z==z' && t==t')))
  ·rfl
  ·simp at e
   obtain ⟨rfl,rfl,rfl,rfl⟩:=e
   exact absurd rfl h
 rw [this]
 rfl):p:=h
theorem zco {x:Int} {y:Bool} {z t x':Int} {y':Bool} {z' t':Int} (h:¬(⟨x,y,z,t⟩:St)=⟨x',y',z',t'⟩) (w:World) :
  (binOp .neq 132 (.agg #[.int .u8 x,.bool y,.int .i64 z,.int .i64 t]) (.agg #[.int .u8 x',.bool y',.int .i64 z',.int .i64 t'])).run Tryz.prog w = .ok (.bool true) w:=by
 rw [run_neq_struct,zaA]
 exact zoJ
theorem zcn {x:Int} {y:Bool} {z t x':Int} {y':Bool} {z' t':Int} (h:¬(⟨x,y,z,t⟩:St)=⟨x',y',z',t'⟩) (w:World) :
  (binOp .eql 132 (.agg #[.int .u8 x,.bool y,.int .i64 z,.int .i64 t]) (.agg #[.int .u8 x',.bool y',.int .i64 z',.int .i64 t'])).run Tryz.prog w = .ok (.bool false) w:=by
 rw [run_eql_struct,zaA]
 exact zoJ
section
variable {H:Type} {enc:TypeId×Value→H} {w:World} {base:Nat} {spare:Nat→Bool} {held:Bool}
end
end Go.Proofs.YtkneghkbgingdaaGreatDoor
/- Lists of terms in memory. -/
namespace Go.Proofs.YtkneghkbgingdaaGreatDoor
set_option maxRecDepth 100000
open Go.RowKit Go.ChangeShapes Go.WideShapes Go.Joins
def TAt (w:World):Tms→Nat→Nat→Prop
 | .nil,_,_=>True
 | .cons N c g r,b,off=>∃(A:Option Addr) (n cap:Nat),w.cell? ⟨b,off,none⟩=some (.int .i64 N)∧w.cell? ⟨b,off+1,none⟩=some (.int .u8 c.k)∧w.cell? ⟨b,off+2,none⟩=some (.bool c.p) ∧
   w.cell? ⟨b,off+3,none⟩=some (.int .i64 c.a)∧w.cell? ⟨b,off+4,none⟩=some (.int .i64 c.b)∧w.cell? ⟨b,off+5,none⟩=some (.slice A n cap)∧(0≤c.k∧c.k≤255) ∧
   g.cnt=n∧n≤maxLen∧(0<n→∃b' off',A=some ⟨b',off',none⟩∧b'<w.heap.size∧TAt w g b' off')∧TAt w r b (off+6)
def Tv (w:World) (A:Option Addr) (n:Nat) (t:Tms):Prop:=t.cnt=n∧n≤maxLen∧(0<n→∃b off,A=some ⟨b,off,none⟩∧b<w.heap.size∧TAt w t b off)
theorem TAt.ext {w w':World} (hb:Ext w w'):∀ {t:Tms} {b off:Nat},b<w.heap.size→TAt w t b off→TAt w' t b off:=by
 intro t
 induction t with
 | nil=>intro b off _ _;trivial
 | cons N c g r ih1 ih2 =>
  intro b off hlt ⟨A,n,cap,h0,h1,h2,h3,h4,h5,hk,hn,hm,hg,hr⟩
  have hc:∀o,w'.cell? ⟨b,o,none⟩=w.cell? ⟨b,o,none⟩:=fun o=>Zm (p:=⟨b,o,none⟩) hb hlt
  refine ⟨A,n,cap,(hc _).trans h0,(hc _).trans h1,(hc _).trans h2,(hc _).trans h3,(hc _).trans h4,(hc _).trans h5,hk,hn,hm,fun h=>?_,ih2 hlt hr⟩
  obtain ⟨b',off',e,hlt',hg'⟩:=hg h
  exact ⟨b',off',e,Zt hlt' (Zr hb),ih1 hlt' hg'⟩
theorem Tv.ext {w w':World} {A:Option Addr} {n:Nat} {t:Tms} (h:Tv w A n t) (hb:Ext w w'):Tv w' A n t :=
 ⟨h.1,h.2.1,fun hn=>by
  obtain ⟨b,off,e,hlt,hc⟩:=h.2.2 hn
  exact ⟨b,off,e,Zt hlt (Zr hb),TAt.ext hb hlt hc⟩⟩
theorem Tv.none_ (w:World) (A:Option Addr):Tv w A 0 .nil:=⟨rfl,by unfold maxLen;omega,fun h=>absurd h (by omega)⟩
theorem zbd {t:Tms} (h:t.cnt=0):t = .nil:=by
 cases t with
 | nil=>rfl
 | cons=>simp [Tms.cnt] at h
theorem TAt.head {w:World} {N:Int} {c:St} {g r:Tms} {b off:Nat} (h:TAt w (.cons N c g r) b off) :
  ∃(A:Option Addr) (n cap:Nat),w.cell? ⟨b,off,none⟩=some (.int .i64 N)∧w.cell? ⟨b,off+1,none⟩=some (.int .u8 c.k)∧w.cell? ⟨b,off+2,none⟩=some (.bool c.p) ∧
   w.cell? ⟨b,off+3,none⟩=some (.int .i64 c.a)∧w.cell? ⟨b,off+4,none⟩=some (.int .i64 c.b)∧w.cell? ⟨b,off+5,none⟩=some (.slice A n cap)∧(0≤c.k∧c.k≤255)∧Tv w A n g∧TAt w r b (off+6):=by
 obtain ⟨A,n,cap,h0,h1,h2,h3,h4,h5,hk,hn,hm,hg,hr⟩:=h
 exact ⟨A,n,cap,h0,h1,h2,h3,h4,h5,hk,⟨hn,hm,hg⟩,hr⟩
section
variable {H:Type} {enc:TypeId×Value→H} {w:World} {base:Nat} {spare:Nat→Bool} {held:Bool}
end
end Go.Proofs.YtkneghkbgingdaaGreatDoor
/- The walks of the checks of terms: size. -/
namespace Go.Proofs.YtkneghkbgingdaaGreatDoor
set_option maxRecDepth 100000
open Go.RowKit Go.ChangeShapes Go.WideShapes Go.Joins
theorem zb8 {t:Tms} (h:0<t.cnt):∃N c g r,t = .cons N c g r:=by
 cases t with
 | nil=>simp [Tms.cnt] at h
 | cons N c g r=>exact ⟨N,c,g,r,rfl⟩
theorem zba:∀t:Tms,t.cnt≤t.size:=by
 intro t
 induction t with
 | nil=>simp [Tms.cnt]
 | cons N c g r h1 h2=>simp [Tms.cnt,Tms.size];omega
theorem zgE:∀t:Tms,t.depth≤t.size:=by
 intro t
 induction t with
 | nil=>simp [Tms.depth,Tms.size]
 | cons N c g r h1 h2=>simp [Tms.depth,Tms.size];omega
theorem zjw {P:Program} {w:World} (ts:Array TypeId) (t:TypeId) (x y:Int):(Builtin.max_ ts t #[.int .i64 x,.int .i64 y]).run P w = .ok (.int .i64 (max x y)) w:=by
 rw [run_max_int2]
 congr 2
 split <;> omega
theorem zcm {P:Program} {w:World} (ts:Array TypeId) (t:TypeId) (x y:Int):(Builtin.min_ ts t #[.int .i64 x,.int .i64 y]).run P w = .ok (.int .i64 (min x y)) w:=by
 rw [run_min_int2]
 congr 2
 split <;> omega
theorem zcq:∀(M:Nat),M≤5000→∀(t:Tms),t.size≤M→∀(A:Option Addr) (n cap:Nat) (w:World),Tv w A n t →
  Calls Tryz.prog 132 #[.slice A n cap] w fun e w'=>e = .returned (.tuple #[.int .i64 (szM t),.int .i64 t.depth])∧Ext w w':=by
 intro M
 induction M using Nat.strongRecOn with
 | ind M ih =>
  intro hM t ht A n cap w hv
  have HI:=Za ih
  have HV:=Za hv
  have hnm:n≤5000:=by have h1:=hv.1;have h2:=zba t;omega
  clear ih hv
  go_enter Tryz.func132,Tryz.ntmps132
  go_wp2_with fail
  go_loopw [2,3,10] (fun u d i wr=>∃(k:Nat) (U:Int) (D:Nat) (rest:Tms),i = .int .i64 k∧u = .int .i64 U∧d = .int .i64 D∧rest.cnt+k=n∧rest.size≤M∧(0≤U∧U≤201)∧D≤5000 ∧
   Hid (min (U+rest.size) 201=szM t∧max D rest.depth=t.depth∧Ext w wr∧(0<rest.cnt→∃b off,A=some ⟨b,off,none⟩∧b<wr.heap.size∧TAt wr rest b (off+k*6)))) (fun _ _ i _=>n-(intOf i).toNat)
  case atStart =>
   refine ⟨0,0,0,t,rfl,rfl,rfl,by have:=HV.out.1;omega,ht,by omega,by omega,Za ⟨by simp [szM],by simp,Zd _,fun h=>?_⟩⟩
   obtain ⟨h1,h2,h3⟩:=HV.out
   obtain ⟨b,off,e,hb,hc⟩:=h3 (by omega)
   exact ⟨b,off,e,hb,by simpa using hc⟩
  case round =>
   obtain ⟨k,U,D,rest,rfl,rfl,rfl,hcnt,hrs,⟨hU0,hU1⟩,hD,HH⟩:=hrel
   by_cases hlt:0<rest.cnt
   ·obtain ⟨N,c,g,r,rfl⟩:=zb8 hlt
    obtain ⟨b,off,rfl,hb1,hc⟩:=HH.out.2.2.2 hlt
    obtain ⟨A',n',cap',c0,c1,c2,c3,c4,c5,hkk,hg,hr⟩:=hc.head
    have hxr:=HH.out.2.2.1
    simp only [Tms.cnt,Tms.size] at hcnt hrs
    have hkn:k<n:=by omega
    have hz:=Zo wr _ c0
    have hcall:=fun (w':World) (h:Ext wr w')=>HI.out (M-1) (by omega) (by omega) g (by omega) A' n' cap' w' (hg.ext h)
    have HC:=Za hcall
    clear hcall hc
    have hg0:0≤szM g∧szM g≤201:=by unfold szM;omega
    have hgs:min (g.size:Int) 201=szM g:=rfl
    have hgd:=zgE g
    have hsz:(Tms.cons N c g r).size=1+g.size+r.size:=rfl
    have hdp:(Tms.cons N c g r).depth=max (g.depth+1) r.depth:=rfl
    have m1:∀(ts:Array TypeId) (t:TypeId) (w:World),(Builtin.min_ ts t #[.int .i64 (U+1+szM g),.int .i64 201]).run Tryz.prog w = .ok (.int .i64 (min (U+1+szM g) 201)) w:=fun ts t w=>zcm ts t _ _
    have m2:∀(ts:Array TypeId) (t:TypeId) (w:World),(Builtin.max_ ts t #[.int .i64 D,.int .i64 ((g.depth:Int)+1)]).run Tryz.prog w = .ok (.int .i64 (max (D:Int) ((g.depth:Int)+1))) w:=fun ts t w=>zjw ts t _ _
    go_wp2_with (go_at_call 132;((with_reducible refine (HC.out _ zx).mono ?_);rintro e w1 ⟨rfl,hq1⟩))
    go_roundw
    case rel =>
     have hxx:Ext wr w1:=zx
     obtain ⟨e1,e2,e3, -⟩:=HH.out
     rw [hsz] at e1
     rw [hdp] at e2
     have q1:min (min (U+1+szM g) 201+(r.size:Int)) 201=szM t:=by rw [←e1,←(show min (g.size:Int) 201=szM g from rfl)];omega
     have q2:max (max D (g.depth+1)) r.depth=t.depth:=by rw [←e2];omega
     have q3:g.depth≤g.size:=zgE g
     have q4:0≤szM g:=hg0.1
     refine ⟨k+1,min (U+1+szM g) 201,max D (g.depth+1),r,by go_num,rfl,?_,by omega,by omega,by omega,by omega,Za ⟨q1,q2,e3.trans hxx,fun h=>?_⟩⟩
     ·rw [show ((max D (g.depth+1):Nat):Int)=max (D:Int) ((g.depth:Int)+1) by omega]
     ·refine ⟨b,off,rfl,Zt hb1 (Zr hxx),?_⟩
      rw [show off+(k+1)*6=off+k*6+6 by omega]
      exact hr.ext hxx hb1
    case measure=>simp [intOf];omega
   ·have hn0:rest.cnt=0:=by omega
    obtain rfl:=zbd hn0
    simp only [Tms.cnt] at hcnt
    obtain ⟨e1,e2,e3, -⟩:=HH.out
    simp only [Tms.size,Tms.depth] at e1 e2
    obtain rfl:k=n:=by omega
    go_wp2
    go_ret2
    have q1:szM t=U:=by rw [←e1];omega
    have q2:t.depth=D:=by rw [←e2];omega
    rw [q1,q2]
    exact ⟨rfl,zx⟩
end Go.Proofs.YtkneghkbgingdaaGreatDoor
/- The walks of the reference's Deep. -/
namespace Go.Proofs.YtkneghkbgingdaaGreatDoor
set_option maxRecDepth 100000
open Go.RowKit Go.ChangeShapes Go.WideShapes Go.Joins
end Go.Proofs.YtkneghkbgingdaaGreatDoor
/- The walk of the reference's Terms. -/
namespace Go.Proofs.YtkneghkbgingdaaGreatDoor
set_option maxRecDepth 100000
open Go.RowKit Go.ChangeShapes Go.WideShapes Go.Joins
end Go.Proofs.YtkneghkbgingdaaGreatDoor
/- The walks of length and long. -/
namespace Go.Proofs.YtkneghkbgingdaaGreatDoor
set_option maxRecDepth 100000
open Go.RowKit Go.ChangeShapes Go.WideShapes Go.Joins
theorem zlL {x a b:Int} (h:inR x a b=true):a≤x∧x≤b:=by simpa [inR] using h
theorem zca {N:Int} {c:St} {g r:Tms} (h:fineT (.cons N c g r)=true):(1≤N∧N≤200)∧fineT g=true∧fineT r=true:=by
 by_cases hg:g = .nil
 ·subst hg
  rw [zaD] at h
  simp only [Zs] at h
  exact ⟨zlL h.1.1,rfl,h.2⟩
 ·rw [zaK _ _ _ _ hg] at h
  simp only [Zs] at h
  exact ⟨zlL h.1.1.1,h.1.2,h.2⟩
theorem znB:∀ {t:Tms},fineT t=true→∀ {m:Int},0≤m→m≤201→0≤lenT t m∧lenT t m≤201:=by
 intro t
 induction t with
 | nil=>intro _ m h0 h1;exact ⟨h0,h1⟩
 | cons N c g r ih1 ih2 =>
  intro h m h0 h1
  obtain ⟨hN,hg,hr⟩:=zca h
  by_cases e:g = .nil
  ·subst e
   rw [zfR]
   exact ih2 hr (by omega) (by omega)
  ·rw [zfQ _ _ _ _ _ e]
   obtain ⟨a,b⟩:=ih1 hg (m:=0) (by omega) (by omega)
   have:=Int.mul_nonneg a (show (0:Int)≤N by omega)
   exact ih2 hr (by omega) (by omega)
theorem zdC:∀(M:Nat),M≤5000→∀(t:Tms),t.size≤M→fineT t=true→∀(A:Option Addr) (n cap:Nat) (w:World),Tv w A n t →
  Calls Tryz.prog 134 #[.slice A n cap] w fun e w'=>e = .returned (.int .i64 (lenT t 0))∧Ext w w':=by
 intro M
 induction M using Nat.strongRecOn with
 | ind M ih =>
  intro hM t ht hf A n cap w hv
  have HI:=Za ih
  have HV:=Za hv
  have hnm:n≤5000:=by have h1:=hv.1;have h2:=zba t;omega
  clear ih hv
  go_enter Tryz.func134,Tryz.ntmps134
  go_wp2_with fail
  go_loopw [3,9] (fun u i wr=>∃(k:Nat) (U:Int) (rest:Tms),i = .int .i64 k∧u = .int .i64 U∧rest.cnt+k=n∧rest.size≤M∧(0≤U∧U≤201) ∧
   Hid (fineT rest=true∧lenT rest U=lenT t 0∧Ext w wr∧(0<rest.cnt→∃b off,A=some ⟨b,off,none⟩∧b<wr.heap.size∧TAt wr rest b (off+k*6)))) (fun _ i _=>n-(intOf i).toNat)
  case atStart =>
   refine ⟨0,0,t,rfl,rfl,by have:=HV.out.1;omega,ht,by omega,Za ⟨hf,rfl,Zd _,fun h=>?_⟩⟩
   obtain ⟨h1,h2,h3⟩:=HV.out
   obtain ⟨b,off,e,hb,hc⟩:=h3 (by omega)
   exact ⟨b,off,e,hb,by simpa using hc⟩
  case round =>
   obtain ⟨k,U,rest,rfl,rfl,hcnt,hrs,⟨hU0,hU1⟩,HH⟩:=hrel
   by_cases hlt:0<rest.cnt
   ·obtain ⟨N,c,g,r,rfl⟩:=zb8 hlt
    obtain ⟨b,off,rfl,hb1,hc⟩:=HH.out.2.2.2 hlt
    obtain ⟨A',n',cap',c0,c1,c2,c3,c4,c5,hkk,hg,hr⟩:=hc.head
    obtain ⟨⟨hN0,hN1⟩,hfg,hfr⟩:=zca HH.out.1
    have hxr:=HH.out.2.2.1
    simp only [Tms.cnt,Tms.size] at hcnt hrs
    have hkn:k<n:=by omega
    have hz:=Zo wr _ c0
    have hcall:=fun (w':World) (h:Ext wr w')=>HI.out (M-1) (by omega) (by omega) g (by omega) hfg A' n' cap' w' (hg.ext h)
    have HC:=Za hcall
    have hgn:=hg.1
    have HF:=Za hfr
    clear hcall hc
    by_cases hn':0<n'
    ·have hge:g ≠ .nil:=by rintro rfl;simp [Tms.cnt] at hgn;omega
     have HL:=Za (zfQ N c g r U hge)
     obtain ⟨hL0,hL1⟩:=znB hfg (m:=0) (by omega) (by omega)
     have HN:=Za hfg
     clear hfg hfr
     generalize hLL:lenT g 0=L at *
     have hp0:0≤L*N:=Int.mul_nonneg hL0 (by omega)
     have hp1:L*N≤201*200:=Int.mul_le_mul hL1 hN1 (by omega) (by omega)
     have m1:∀(ts:Array TypeId) (t:TypeId) (w:World),(Builtin.min_ ts t #[.int .i64 (U+L*N),.int .i64 201]).run Tryz.prog w = .ok (.int .i64 (min (U+L*N) 201)) w:=fun ts t w=>zcm ts t _ _
     have f1:=Zp (L*N) (by omega)
     have f2:=Zp (U+L*N) (by omega)
     go_wp2_with (go_at_call 134;((with_reducible refine (HC.out _ zx).mono ?_);rintro e w1 ⟨rfl,hq1⟩;obtain ⟨hf1,hf2,hf3⟩:=hq1.facts))
     go_roundw
     case rel =>
      have hxx:Ext wr w1:=zx
      obtain ⟨_,e2,e3, -⟩:=HH.out
      rw [HL.out] at e2
      refine ⟨k+1,min (U+L*N) 201,r,by go_num,by go_num,by omega,by omega,by omega,Za ⟨HF.out,e2,e3.trans hxx,fun h=>?_⟩⟩
      refine ⟨b,off,rfl,Zt hb1 (Zr hxx),?_⟩
      rw [show off+(k+1)*6=off+k*6+6 by omega]
      exact hr.ext hxx hb1
     case measure=>simp [intOf];omega
    ·obtain rfl:=zbd (t:=g) (by omega)
     obtain rfl:n'=0:=by omega
     have HL:=Za (zfR N c r U)
     have m1:∀(ts:Array TypeId) (t:TypeId) (w:World),(Builtin.min_ ts t #[.int .i64 (U+1*N),.int .i64 201]).run Tryz.prog w = .ok (.int .i64 (min (U+1*N) 201)) w:=fun ts t w=>zcm ts t _ _
     have m2:∀(ts:Array TypeId) (t:TypeId) (w:World),(Builtin.min_ ts t #[.int .i64 (U+N),.int .i64 201]).run Tryz.prog w = .ok (.int .i64 (min (U+N) 201)) w:=fun ts t w=>zcm ts t _ _
     go_wp2_with fail
     go_roundw
     case rel =>
      obtain ⟨_,e2,e3, -⟩:=HH.out
      rw [HL.out] at e2
      refine ⟨k+1,min (U+1*N) 201,r,by go_num,by first | go_num | simp,by omega,by omega,by omega,Za ⟨HF.out,e2,by first | exact e3 | exact e3.alloc _ ,fun h=>?_⟩⟩
      refine ⟨b,off,rfl,by first | exact hb1 | exact Zt hb1 (Zr ((Zd wr).alloc _)),?_⟩
      rw [show off+(k+1)*6=off+k*6+6 by omega]
      first | exact hr | exact hr.ext ((Zd wr).alloc _) hb1
     case measure=>simp [intOf];omega
   ·have hn0:rest.cnt=0:=by omega
    obtain rfl:=zbd hn0
    simp only [Tms.cnt] at hcnt
    obtain ⟨_,e2,e3, -⟩:=HH.out
    obtain rfl:k=n:=by omega
    have q2:lenT t 0=U:=e2.symm
    go_wp2
    go_ret
    first | exact ⟨rfl,zx⟩ | (rw [q2];exact ⟨rfl,zx⟩)
end Go.Proofs.YtkneghkbgingdaaGreatDoor
