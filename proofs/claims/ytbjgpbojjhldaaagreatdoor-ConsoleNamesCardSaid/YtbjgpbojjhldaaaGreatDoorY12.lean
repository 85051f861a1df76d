/- The reader of terms: its state; take and until. -/
import Derived.Test.YtbjgpbojjhldaaaGreatDoorY09
import Derived.Test.YtbjgpbojjhldaaaGreatDoorY11
import Derived.Laws.BytesArg
import Derived.Lib.AtoiTie
set_option maxHeartbeats 16000000
namespace Go.Proofs.YtbjgpbojjhldaaaGreatDoor
set_option maxRecDepth 100000
open Go.RowKit Go.ChangeShapes Go.WideShapes Go.Joins
def atoiO (l:List UInt8):Option Int:=match Lib.atoiAll l with
 | .ok v=>some v
 | _=>none
theorem zev {l:List UInt8} {v:Int} (h:atoiO l=some v) (hl:l.length<=1000000) (w:World) :
  Calls Tryz.prog 113 #[.string ⟨l.toArray⟩] w fun e w'=>e = .returned (.tuple #[.int .i64 v,.nilIface])/\Ext w w':=by
 have h1:Lib.atoiAll l = .ok v:=by
  unfold atoiO at h
  split at h
  ·rename_i v' h2
   cases h
   exact h2
  ·cases h
 refine (Tryz.strconv_Atoi_ok ⟨l.toArray⟩ (by rw [zai];omega) v (by rw [zae];exact h1) w).mono ?_
 rintro e w' ⟨rfl,h2⟩
 refine ⟨rfl,?_⟩
 rcases h2 with rfl | ⟨t,rfl⟩
 ·exact Ze _
 ·exact Lib.bytesWorld_below _ _ _
theorem zf4 {l:List UInt8} (h:atoiO l=none) (hl:l.length<=1000000) (w:World) (hg:Glob w) :
  Calls Tryz.prog 113 #[.string ⟨l.toArray⟩] w fun e w'=>∃(v:Int) (te:TypeId) (p:Addr),e = .returned (.tuple #[.int .i64 v,.iface te (.pointer (some p))])/\Ext w w':=by
 cases h1:Lib.atoiAll l
 ·unfold atoiO at h
  rw [h1] at h
  cases h
 ·obtain ⟨tp,p,hv⟩:=hg.syn
  refine (Any.strconv_Atoi_syntax_var Tryz.laysC172 ⟨l.toArray⟩ (by rw [zai];omega) (by rw [zae];exact h1) tp p w hv).mono ?_
  rintro e w' ⟨N,rfl,_,_,hb⟩
  exact ⟨_,_,_,rfl,hb⟩
 ·obtain ⟨tp,p,hv⟩:=hg.rng
  refine (Tryz.strconv_Atoi_range_var ⟨l.toArray⟩ (by rw [zai];omega) (by rw [zae];exact h1) tp p w hv).mono ?_
  rintro e w' ⟨N,rfl,_,_,hb⟩
  exact ⟨_,_,_,rfl,hb⟩
def Asc (_:List UInt8):Prop:=True
theorem Asc.suf {s r:List UInt8} (_:Asc s) (_:r <:+ s):Asc r:=trivial
theorem zqm (x:UInt8):([32,40,41,42]:List UInt8).contains x=isStop x:=by
 unfold isStop
 simp only [List.contains_cons,List.contains_nil,Bool.or_false,Bool.or_assoc]
theorem zbm:∀s:List UInt8,(untilS s).1++(untilS s).2=s:=by
 intro s
 induction s with
 | nil=>rfl
 | cons x l ih =>
  rw [untilS]
  split
  ·rfl
  ·simp [ih]
theorem zaO (s:List UInt8):(untilS s).2 <:+ s:=⟨(untilS s).1,zbm s⟩
theorem znY (s:List UInt8):Lib.indexAny s [32,40,41,42]=if (untilS s).2=[] then -1 else ((untilS s).1.length:Int):=by
 induction s with
 | nil=>rfl
 | cons x l ih =>
  rw [Lib.indexAny,zqm,untilS]
  by_cases h:isStop x=true
  ·rw [if_pos h,if_pos h]
   simp
  ·rw [if_neg h,if_neg h,ih]
   by_cases h2:(untilS l).2=[]
   ·simp [h2]
   ·rw [if_neg h2]
    simp only [h2,if_false]
    have:¬(((untilS l).1.length:Int) == -1)=true:=by simp
    rw [if_neg this]
    simp
def RdAt (w:World) (g:Nat) (s:List UInt8) (d:Int):Prop:=w.heap[g]?=some (.cells #[.string ⟨s.toArray⟩,.int .i64 d] 254 (0,0))
theorem RdAt.ext {w w':World} {g:Nat} {s:List UInt8} {d:Int} (h:RdAt w g s d) (hb:Ext w w'):RdAt w' g s d:=by
 unfold RdAt
 rw [hb.block g (Zh.1 h).1]
 exact h
theorem RdAt.lt {w:World} {g:Nat} {s:List UInt8} {d:Int} (h:RdAt w g s d):g<w.heap.size:=(Zh.1 h).1
theorem RdAt.facts {w:World} {g:Nat} {s:List UInt8} {d:Int} (h:RdAt w g s d):w.cell? ⟨g,0,none⟩=some (.string ⟨s.toArray⟩)/\w.cell? ⟨g,1,none⟩=some (.int .i64 d)/\w.frozen? ⟨g,0,none⟩=false/\w.frozen? ⟨g,1,none⟩=false/\g<w.heap.size :=
 ⟨by rw [cell_of_row w g _ _ _ (0,0) h];rfl,by rw [cell_of_row w g _ _ _ (0,0) h];rfl,frozen_of_row w g _ _ _ h,frozen_of_row w g _ _ _ h,h.lt⟩
theorem RdAt.set0 {w:World} {g:Nat} {s:List UInt8} {d:Int} (h:RdAt w g s d) (r:List UInt8):RdAt (w.setCell ⟨g,0,none⟩ (.string ⟨r.toArray⟩)) g r d:=heap_setCell_same w g 0 _ _ _ h
theorem RdAt.set1 {w:World} {g:Nat} {s:List UInt8} {d:Int} (h:RdAt w g s d) (e:Int):RdAt (w.setCell ⟨g,1,none⟩ (.int .i64 e)) g s e:=heap_setCell_same w g 1 _ _ _ h
def hitB (x:UInt8):List UInt8->Bool
 | []=>false
 | y::_=>y==x
def hitR (x:UInt8):List UInt8->List UInt8
 | []=>[]
 | y::r=>if y==x then r else y::r
def TakeR (g:Nat) (x:UInt8) (s:List UInt8) (d:Int) (w:World) (e:Ending) (w':World):Prop:=e = .returned (.bool (hitB x s))/\RdAt w' g (hitR x s) d/\But (some g) w w'
theorem zeH (x:UInt8) (s:List UInt8):hitR x s <:+ s:=by
 cases s with
 | nil=>exact List.suffix_refl _
 | cons y r =>
  rw [hitR]
  split
  ·exact ⟨[y],rfl⟩
  ·exact List.suffix_refl _
theorem zc7 (x:UInt8) (c:Int) (hc:(x.toNat:Int)=c) (g:Nat) (s:List UInt8) (d:Int) (w:World) (h:RdAt w g s d) (hl:s.length<=100000) :
  Calls Tryz.prog 221 #[.pointer (some ⟨g,0,none⟩),.int .u8 c] w (TakeR g x s d w):=by
 have HR:=Za h
 obtain ⟨c0,c1,f0,f1,hz⟩:=h.facts
 clear h
 cases s with
 | nil =>
  go_enter Tryz.func221,Tryz.ntmps221
  go_wp2_with fail
  go_ret
  exact ⟨rfl,HR.out.ext zx,But.of_ext zx _⟩
 | cons y r =>
  have hn:((((y::r).length:Nat):Int)==0)=false:=by rw [ZC];simp;omega
  have hi:∀h:0<(y::r).length,(⟨(y::r).toArray⟩:ByteArray)[0]'(by rw [zai];exact h)=y:=fun _=>rfl
  by_cases hx:y=x
  ·subst hx
   subst hc
   have HH:=Za (show hitB y (y::r)=true/\hitR y (y::r)=r by simp [hitB,hitR])
   have hex:(⟨(y::r).toArray⟩:ByteArray).extract 1 (r.length+1)=⟨r.toArray⟩:=zaY (y::r) 1 (r.length+1) (by simp)
   go_enter Tryz.func221,Tryz.ntmps221
   go_wp2_with fail
   go_ret
   exact ⟨by rw [HH.out.1];rfl,by rw [HH.out.2];exact HR.out.set0 r,(But.refl _ _).own rfl _⟩
  ·have HH:=Za (show hitB x (y::r)=false/\hitR x (y::r)=y::r by simp [hitB,hitR,hx])
   have hne:(((y.toNat:Nat):Int) != c)=true:=by
    rw [<-hc]
    simp
    intro e
    apply hx
    exact UInt8.toNat_inj.1 (by omega)
   go_enter Tryz.func221,Tryz.ntmps221
   go_wp2_with fail
   go_ret
   exact ⟨by rw [HH.out.1];rfl,by rw [HH.out.2];exact HR.out,But.refl _ _⟩
theorem zpn (s:List UInt8) (_:Asc s) (hl:s.length<=100000) (w:World) :
  Calls Tryz.prog 246 #[.string ⟨s.toArray⟩,.string ⟨#[32,40,41,42]⟩] w fun e w'=>e = .returned (.int .i64 (if (untilS s).2=[] then -1 else ((untilS s).1.length:Int)))/\Ext w w':=by
 have h:=zmD s (by omega) w
 rw [znY] at h
 exact h
def UntilR (g:Nat) (s:List UInt8) (d:Int) (w:World) (e:Ending) (w':World):Prop:=e = .returned (.string ⟨(untilS s).1.toArray⟩)/\RdAt w' g (untilS s).2 d/\But (some g) w w'
theorem zaN (g:Nat) (s:List UInt8) (d:Int) (w:World) (h:RdAt w g s d) (ha:Asc s) (hl:s.length<=100000) :
  Calls Tryz.prog 237 #[.pointer (some ⟨g,0,none⟩),.string ⟨#[32,40,41,42]⟩] w (UntilR g s d w):=by
 have HR:=Za h
 obtain ⟨c0,c1,f0,f1,hz⟩:=h.facts
 have HI:=Za (fun (w':World)=>zpn s ha hl w')
 clear h ha
 have aa:=zbm s
 obtain ⟨X,hX⟩:∃X,(untilS s).1=X:=⟨_,rfl⟩
 obtain ⟨Y,hY⟩:∃Y,(untilS s).2=Y:=⟨_,rfl⟩
 rw [hX,hY] at aa
 by_cases h0:Y=[]
 ·subst h0
  rw [ZF] at aa
  subst aa
  have ab:=Za (And.intro hX hY)
  have ad:=Za (fun (w':World)=>(show Calls Tryz.prog 246 #[.string ⟨X.toArray⟩,.string ⟨#[32,40,41,42]⟩] w' fun e w''=>e = .returned (.int .i64 (-1))/\Ext w' w'' from by
   have h9:=HI.out w'
   rw [hY,if_pos rfl] at h9
   exact h9))
  have e0:(⟨X.toArray⟩:ByteArray).extract 0 X.length=⟨X.toArray⟩:=by rw [zc5,Zs (Zb _)]
  have e1:(⟨X.toArray⟩:ByteArray).extract X.length X.length=⟨([]:List UInt8).toArray⟩:=by rw [zaY X X.length X.length (Zb _),ZE (Zb _)]
  clear hX hY HI
  go_enter Tryz.func237,Tryz.ntmps237
  go_wp2_with (first
   | (go_at_call 246;((with_reducible refine (ad.out _).mono ?_);rintro e w1 ⟨rfl,ac⟩;obtain ⟨x0,x1,x2,x3,x4⟩:=(HR.out.ext ac).facts;have HQ:=Za ac)))
  go_ret
  exact ⟨by rw [ab.out.1];rfl,by rw [ab.out.2];exact (HR.out.ext HQ.out).set0 [],(But.of_ext HQ.out _).own rfl _⟩
 ·have hlen:s.length=X.length+Y.length:=by rw [<-aa,Zc]
  have ab:=Za (And.intro hX hY)
  have ad:=Za (fun (w':World)=>(show Calls Tryz.prog 246 #[.string ⟨s.toArray⟩,.string ⟨#[32,40,41,42]⟩] w' fun e w''=>e = .returned (.int .i64 (X.length:Int))/\Ext w' w'' from by
   have h9:=HI.out w'
   rw [hY,if_neg h0,hX] at h9
   exact h9))
  have e0:(⟨s.toArray⟩:ByteArray).extract 0 X.length=⟨X.toArray⟩:=by rw [zc5,<-aa,List.take_left]
  have e1:(⟨s.toArray⟩:ByteArray).extract X.length (X.length+Y.length)=⟨Y.toArray⟩:=by rw [zaY s X.length (X.length+Y.length) (by omega),<-aa,List.drop_left]
  have b1:(X.length:Int)<=(s.length:Int):=by omega
  have b2:(0:Int)<=(X.length:Int):=by omega
  have b3:¬((X.length:Int)<0):=by omega
  clear hX hY HI aa h0
  go_enter Tryz.func237,Tryz.ntmps237
  go_wp2_with (first
   | (go_at_call 246;((with_reducible refine (ad.out _).mono ?_);rintro e w1 ⟨rfl,ac⟩;obtain ⟨x0,x1,x2,x3,x4⟩:=(HR.out.ext ac).facts;have HQ:=Za ac)))
  go_ret
  exact ⟨by rw [ab.out.1];rfl,by rw [ab.out.2];exact (HR.out.ext HQ.out).set0 Y,(But.of_ext HQ.out _).own rfl _⟩
end Go.Proofs.YtbjgpbojjhldaaaGreatDoor
/- The library's functions that the console calls;number. -/
namespace Go.Proofs.YtbjgpbojjhldaaaGreatDoor
set_option maxRecDepth 100000
open Go.RowKit
theorem zo8 (c:UInt8):∀(l:List UInt8),Lib.cut l [c]=cutF c l:=by
 intro l
 rw [Lib.cut]
 induction l with
 | nil=>rfl
 | cons x l ih =>
  rw [zaH,cutF]
  by_cases hx:x=c
  ·subst hx
   simp
  ·have aa:¬c=x:=fun e=>hx e.symm
   rw [if_neg aa,if_neg hx]
   rw [<-ih]
   rcases Lib.index_spec l [c] with ⟨hm,_⟩ | ⟨i,hm,_⟩
   ·rw [hm];rfl
   ·rw [hm]
    have h1:((i:Int) == -1)=false:=by rw [ZC];omega
    have h2:¬((i:Int)+1<0):=by omega
    simp [h1]
    omega
theorem zah (c:UInt8) (l:List UInt8) (hl:l.length<=1000000) (w:World) (hg:Glob w) :
  Calls Tryz.prog 34 #[.string ⟨l.toArray⟩,.string ⟨#[c]⟩] w fun e w'=>e = .returned (.tuple #[.string ⟨(cutF c l).1.toArray⟩,.string ⟨(cutF c l).2.1.toArray⟩,.bool (cutF c l).2.2])/\Ext w w':=by
 obtain ⟨m,hm⟩:=hg.max
 refine (Tryz.strings_Cut ⟨l.toArray⟩ ⟨#[c]⟩ m w (by rw [zai];omega) hm).mono ?_
 rintro e w' ⟨rfl,n,rfl⟩
 refine ⟨?_,(Ze _).drewN n⟩
 have h:=zo8 c l
 rw [show (⟨l.toArray⟩:ByteArray).data.toList=l from zae l,show (⟨#[c]⟩:ByteArray).data.toList=[c] from rfl,h]
theorem zfb (c:UInt8) (l:List UInt8) (w:World) :
  Calls Tryz.prog 39 #[.string ⟨l.toArray⟩,.string ⟨#[c]⟩] w fun e w'=>e = .returned (.int .i64 (l.count c:Nat))/\w'=w:=by
 refine (Tryz.strings_Count_one ⟨l.toArray⟩ c w).mono ?_
 rintro e w' ⟨rfl,rfl⟩
 refine ⟨?_,rfl⟩
 rw [show (⟨l.toArray⟩:ByteArray).data.toList=l from zae l]
 rfl
theorem ziu (l:List UInt8) (hl:l.length<=1000000000) (w:World) :
  Calls Tryz.prog 62 #[.string ⟨l.toArray⟩,.string ⟨#[10]⟩] w fun e w'=>e = .returned (.bool (decide (l.getLast?=some 10)))/\w'=w:=by
 refine (Tryz.strings_HasSuffix ⟨l.toArray⟩ ⟨#[10]⟩ w (by rw [zai];omega)).mono ?_
 rintro e w' ⟨rfl,rfl⟩
 refine ⟨?_,rfl⟩
 have e3:Lib.hasSuffix l [10]=decide (l.getLast?=some 10):=by
  rw [Lib.hasSuffix,Bool.eq_iff_iff,List.isSuffixOf_iff_suffix,Zy]
  constructor
  ·rintro ⟨t,rfl⟩
   simp
  ·intro h
   obtain ⟨ys,e⟩:=List.getLast?_eq_some_iff.1 h
   exact ⟨ys,e.symm⟩
 rw [show (⟨l.toArray⟩:ByteArray).data.toList=l from zae l,show (⟨#[10]⟩:ByteArray).data.toList=[10] from rfl,e3]
theorem zkT (a b:UInt8) (hab:a≠b) (l:List UInt8) (hl:l.length<=10000) (w:World) (hg:Glob w) :
  Calls Tryz.prog 109 #[.string ⟨l.toArray⟩,.string ⟨#[a]⟩,.string ⟨#[b]⟩] w fun e w'=>e = .returned (.string ⟨(exB a b l).toArray⟩)/\Ext w w':=by
 obtain ⟨m,hm⟩:=hg.max
 have hc:Lib.countB ⟨l.toArray⟩ ⟨#[a]⟩<=10000:=by
  have h9:=zjm a l
  have h6:Lib.countB ⟨l.toArray⟩ ⟨#[a]⟩=Lib.count l [a]:=by rw [Lib.countB,zae]
  omega
 have h5:Lib.countB ⟨l.toArray⟩ ⟨#[a]⟩*(⟨#[b]⟩:ByteArray).size<=10000*1:=Nat.mul_le_mul hc (by simp [ByteArray.size])
 refine (Tryz.strings_ReplaceAll ⟨l.toArray⟩ ⟨#[a]⟩ ⟨#[b]⟩ m w (by rw [zai];omega) hm (by simp [ByteArray.size]) (by rw [zai];omega)).mono ?_
 rintro e w' ⟨rfl,hb⟩
 refine ⟨?_,hb⟩
 rw [show (⟨l.toArray⟩:ByteArray).data.toList=l from zae l,show (⟨#[a]⟩:ByteArray).data.toList=[a] from rfl,show (⟨#[b]⟩:ByteArray).data.toList=[b] from rfl,zqW hab]
theorem zce (n:Int) (h0 : -1000000000000<=n) (h1:n<=1000000000000) (w:World) (hg:Glob w) :
  Calls Tryz.prog 36 #[.int .i64 n] w fun e w'=>e = .returned (.string ⟨(itoaZ n).toArray⟩)/\Ext w w':=by
 refine (Tryz.strconv_Itoa n (by omega) (by omega) w hg.tab).mono ?_
 rintro e w' ⟨rfl,k,os,rfl⟩
 refine ⟨?_,Lib.below_grow _ _ (Zb _) _ _⟩
 have e3:Lib.itoa n=itoaZ n:=by
  rw [Lib.itoa,itoaZ]
  split
  ·rw [zgj (by omega),show n.natAbs=(-n).toNat by omega]
  ·rw [zgj (by omega)]
 rw [e3]
end Go.Proofs.YtbjgpbojjhldaaaGreatDoor
/- console.check. -/
namespace Go.Proofs.YtbjgpbojjhldaaaGreatDoor
set_option maxRecDepth 100000
open Go.RowKit
theorem zde (s:List UInt8) (hs:s.length<=1000000000) (w:World) :
  Calls Tryz.prog 33 #[.string ⟨s.toArray⟩] w fun e w'=>e = .returned (.int .i64 (runE s))/\w=w':=by
 have HC:=Za (fun w'=>zfb 10 s w')
 have HS:=Za (fun w'=>ziu s hs w')
 obtain ⟨k,hk⟩:∃k,s.count 10=k:=⟨_,rfl⟩
 have hkl:k<=s.length:=by rw [<-hk];exact List.count_le_length
 rw [hk] at HC
 obtain ⟨u,hu⟩:∃u,decide (s.getLast?=some 10)=u:=⟨_,rfl⟩
 rw [hu] at HS
 obtain ⟨L,hL⟩:∃L,s.length=L:=⟨_,rfl⟩
 have hsz:(⟨s.toArray⟩:ByteArray).size=L:=by rw [zai,hL]
 by_cases h1:20000<L
 ·have HR:=Za (show runE s=4 by rw [runE,if_pos (.inl (by omega))])
  have q1:(20000:Int)<(L:Int):=by omega
  clear hk hu
  go_enter Tryz.func33,Tryz.ntmps33
  go_wp2
  go_ret
  exact ⟨by rw [HR.out];rfl,rfl⟩
 have q1:¬(20000:Int)<(L:Int):=by omega
 by_cases h2:200<k
 ·have HR:=Za (show runE s=4 by rw [runE,if_pos (.inr (by omega))])
  have q2:(200:Int)<(k:Int):=by omega
  clear hk hu
  go_enter Tryz.func33,Tryz.ntmps33
  go_wp2_with (go_at_call 39;((with_reducible refine (HC.out _).mono ?_);rintro e w1 ⟨rfl,rfl⟩))
  go_ret
  exact ⟨by rw [HR.out];rfl,rfl⟩
 have q2:¬(200:Int)<(k:Int):=by omega
 by_cases h3:s=[]
 ·have HR:=Za (show runE s=0 by rw [runE,if_neg (by omega),if_neg (by simp [h3])])
  have q3:s.isEmpty=true:=by rw [h3];rfl
  clear hk hu h3
  go_enter Tryz.func33,Tryz.ntmps33
  go_wp2_with (go_at_call 39;((with_reducible refine (HC.out _).mono ?_);rintro e w1 ⟨rfl,rfl⟩))
  go_ret
  exact ⟨by rw [HR.out];rfl,rfl⟩
 have q3:s.isEmpty=false:=by simpa using h3
 cases u
 ·have HR:=Za (show runE s=12 by rw [runE,if_neg (by omega),if_pos ⟨h3,of_decide_eq_false hu⟩])
  clear hk hu h3
  go_enter Tryz.func33,Tryz.ntmps33
  go_wp2_with (first
   | (go_at_call 39;((with_reducible refine (HC.out _).mono ?_);rintro e w1 ⟨rfl,rfl⟩))
   | (go_at_call 62;((with_reducible refine (HS.out _).mono ?_);rintro e w1 ⟨rfl,rfl⟩)))
  go_ret
  exact ⟨by rw [HR.out];rfl,rfl⟩
 ·have HR:=Za (show runE s=0 by rw [runE,if_neg (by omega),if_neg (fun h=>h.2 (of_decide_eq_true hu))])
  clear hk hu h3
  go_enter Tryz.func33,Tryz.ntmps33
  go_wp2_with (first
   | (go_at_call 39;((with_reducible refine (HC.out _).mono ?_);rintro e w1 ⟨rfl,rfl⟩))
   | (go_at_call 62;((with_reducible refine (HS.out _).mono ?_);rintro e w1 ⟨rfl,rfl⟩)))
  go_ret
  exact ⟨by rw [HR.out];rfl,rfl⟩
end Go.Proofs.YtbjgpbojjhldaaaGreatDoor
/- console.Lines. -/
namespace Go.Proofs.YtbjgpbojjhldaaaGreatDoor
set_option maxRecDepth 100000
open Go.RowKit
def lnsN (s:List UInt8):Nat:=if runE s≠0 then 0 else s.count 10
theorem zsx {p:Prop} (h:p:=by
 go_wp2_with (first
  | (go_at_call 33;((with_reducible refine (HC.out _).mono ?_);rintro e5 w5 ⟨rfl,rfl⟩)))
 go_ret2
 rw [HV.out]
 exact ⟨rfl,zx⟩):p:=h
theorem zbS (s:List UInt8) (hs:s.length<=1000000000) (w:World) :
  Calls Tryz.prog 11 #[.string ⟨s.toArray⟩] w fun e w'=>e = .returned (.tuple #[.int .i64 (lnsN s:Nat),.int .i64 (runE s)])/\Ext w w':=by
 have HC:=Za (fun w'=>zde s hs w')
 have HN:=Za (fun w'=>zfb 10 s w')
 obtain ⟨e,he⟩:∃e,runE s=e:=⟨_,rfl⟩
 by_cases h0:e=0
 ·have HV:=Za (show lnsN s=s.count 10 by rw [lnsN,he,if_neg (by simp [h0])])
  rw [he] at HC ⊢
  subst h0
  clear he
  go_enter Tryz.func11,Tryz.ntmps11
  go_wp2_with (first
   | (go_at_call 33;((with_reducible refine (HC.out _).mono ?_);rintro e5 w5 ⟨rfl,rfl⟩))
   | (go_at_call 39;((with_reducible refine (HN.out _).mono ?_);rintro e6 w6 ⟨rfl,hq6⟩;subst hq6)))
  go_ret2
  rw [HV.out]
  exact ⟨rfl,zx⟩
 ·have HV:=Za (show lnsN s=0 by rw [lnsN,he,if_pos h0])
  rw [he] at HC ⊢
  have h1:(e==0)=false:=by simpa using h0
  clear he
  go_enter Tryz.func11,Tryz.ntmps11
  exact zsx
end Go.Proofs.YtbjgpbojjhldaaaGreatDoor
/- The reference's Cut,Number and kind. -/
namespace Go.Proofs.YtbjgpbojjhldaaaGreatDoor
set_option maxRecDepth 100000
open Go.RowKit
theorem zqn (l:List UInt8) (f k:Nat):(⟨l.toArray⟩:ByteArray).extract f k=⟨((l.drop f).take (k-f)).toArray⟩:=by
 apply ByteArray.ext
 apply Array.toList_inj.1
 rw [Lib.extract_data]
end Go.Proofs.YtbjgpbojjhldaaaGreatDoor
/- The reference's Decimal writes a number in decimal. -/
namespace Go.Proofs.YtbjgpbojjhldaaaGreatDoor
set_option maxRecDepth 100000
open Go.RowKit
end Go.Proofs.YtbjgpbojjhldaaaGreatDoor
/- Atoi of a number that has been written. -/
namespace Go.Proofs.YtbjgpbojjhldaaaGreatDoor
set_option maxRecDepth 100000
open Go
theorem zsC (n:Int) (h1 : -9999999<=n) (h2:n<=9999999):atoiO (itoaZ n)=some n:=by
 have key:∀k:Nat,k<=9999999->(decD k).all isDg=true/\decD k≠[]/\(decD k).length<=7/\valD (decD k)=k:=fun k hk=>by
  refine ⟨Zu.2 (zbo k),?_,zjx (by omega),zeA (by omega)⟩
  obtain ⟨c,d,e⟩:=zez k
  rw [e];simp
 suffices hm:Lib.atoiAll (itoaZ n) = .ok n by rw [atoiO,hm]
 unfold itoaZ
 split
 ·obtain ⟨g1,g2,g3,g4⟩:=key (-n).toNat (by omega)
  rw [Lib.atoiAll_short _ (by simp;omega),Lib.atoi,if_pos (by decide)]
  have h5:Lib.decNat (decD (-n).toNat)=some (valD (decD (-n).toNat)):=by
   rw [Lib.decNat,if_neg (by simp [g2]),zdq _ 0 g1]
   rfl
  rw [h5,g4]
  simp only [Option.map_some,Lib.NumEnd.ofOption]
  congr 1
  omega
 ·obtain ⟨g1,g2,g3,g4⟩:=key n.toNat (by omega)
  rw [Lib.atoiAll_short _ (by omega),zdb g1 g2,g4]
  simp only [Lib.NumEnd.ofOption]
  congr 1
  omega
end Go.Proofs.YtbjgpbojjhldaaaGreatDoor
/- The reference's Start,Split,Decimal;the law's lines,joined,answer. -/
namespace Go.Proofs.YtbjgpbojjhldaaaGreatDoor
set_option maxRecDepth 100000
open Go.RowKit
theorem zqT {s:List UInt8}:s.dropLast=s.take (s.length-1):=by rw [List.dropLast_eq_take]
end Go.Proofs.YtbjgpbojjhldaaaGreatDoor
/- The chapter's examples of scripts,in plain Lean. -/
namespace Go.Proofs.YtbjgpbojjhldaaaGreatDoor
set_option maxRecDepth 100000
def scrB:List UInt8:=[115,116,105,116,99,104,101,115,32,49,49,52,48,10,103,97,117,103,101,32,50,50,32,49,48,48,48,32,51,48,32,49,48,48,48,10,115,116,105,116,99,104,101,115,32,49,49,52,48,10,119,111,114,100,115,32,107,51,32,121,111,32,107,102,50,10,116,119,105,108,108,32,49,32,50,32,50,10,104,97,110,103,115,10,99,108,111,116,104,10]
def outB:List UInt8:=[101,114,114,111,114,32,54,10,111,107,10,50,53,10,107,110,105,116,32,51,44,32,121,97,114,110,32,111,118,101,114,44,32,107,110,105,116,32,50,32,116,111,103,101,116,104,101,114,32,40,102,105,114,115,116,32,111,110,32,116,111,112,41,10,111,107,10,121,101,115,10,120,46,46,120,47,46,46,120,120,47,46,120,120,46,47,120,120,46,46,47,10]
theorem zsr:runE scrB=0:=by decide +kernel
theorem zsA:lnsN scrB=7:=by decide +kernel
theorem zsB:runV atoiO scrB=outB:=by decide +kernel
end Go.Proofs.YtbjgpbojjhldaaaGreatDoor
/- Facts on satins,twills and what is asked about a cloth,in plain Lean. -/
namespace Go.Proofs.YtbjgpbojjhldaaaGreatDoor
set_option maxRecDepth 100000
theorem zkV:∀(l:List Int) (i:Nat) (out r:List Bool),out.length<=64->rowGo l i out=some r->r.length<=64/\out.length+l.length<=r.length:=by
 intro l
 induction l with
 | nil=>intro i out r ho h;simp only [rowGo,Option.some.injEq] at h;subst h;simp [ho]
 | cons n l ih =>
  intro i out r ho h
  rw [rowGo] at h
  split at h
  ·cases h
  ·rename_i hc
   have h1:=ih (i+1) (out++List.replicate n.toNat (decide (i % 2=0))) r (by simp;omega) h
   simp only [Zc,ZH,Zk] at h1 ⊢
   omega
theorem zhQ {l:List Int} {r:List Bool} (h:rowR l=some r):2<=r.length/\r.length<=64:=by
 rw [rowR] at h
 split at h
 ·cases h
 ·have:=zkV l 0 [] r (by simp) h
  simp only [List.length_nil] at this
  omega
theorem zfW (r:List Bool) (k:Nat):(turnR r k).length=r.length:=by
 simp [turnR]
theorem zc1 {n s j:Nat}:(j*s % n+s) % n=(j+1)*s % n:=by
 rw [Nat.mod_add_mod,Nat.add_mul,Nat.one_mul]
theorem zqu (r:List Bool) (s:Nat):∀(f j:Nat) (b:List Bool),1<=f->f+j=r.length->b.length=j*r.length ->
  (twGo r s f (j*s % r.length) b j).w=r.length/\1<=(twGo r s f (j*s % r.length) b j).h/\(twGo r s f (j*s % r.length) b j).h<=r.length /\
  (twGo r s f (j*s % r.length) b j).b.length=r.length*(twGo r s f (j*s % r.length) b j).h:=by
 intro f
 induction f with
 | zero=>intro j b h;omega
 | succ f ih =>
  intro j b _ hj hb
  rw [twGo,zc1]
  split
  ·refine ⟨rfl,by simp,by simp only;omega,?_⟩
   simp only [Zc,zfW,hb,Nat.mul_comm r.length,Nat.add_mul,Nat.one_mul]
  ·rename_i hc
   have hf:1<=f:=by
    rcases Nat.eq_zero_or_pos f with e | e
    ·exfalso
     apply hc
     rw [show j+1=r.length by omega,Nat.mul_mod_right]
    ·exact e
   exact ih (j+1) _ hf (by omega) (by rw [Zc,zfW,hb,Nat.add_mul,Nat.one_mul])
theorem zoN {l:List Int} {step:Int} {g:Gd} (h:twV l step=some g):okG g:=by
 rw [twV] at h
 split at h
 ·cases h
 ·rename_i r hr
  cases h
  have h1:=zhQ hr
  have h2:=zqu r (modZ step r.length) r.length 0 [] (by omega) (by omega) (by simp)
  rw [Nat.zero_mul,Nat.zero_mod] at h2
  refine ⟨by omega,by omega,h2.2.1,by omega,?_⟩
  rw [h2.2.2.2,h2.1]
theorem zks {n m:Int} (h:moveB n m=true):5<=n/\n<=64/\1<m/\m<n-1/\Nat.gcd n.toNat m.toNat=1:=by
 simpa [moveB,and_assoc] using h
theorem zk3 {n m:Int} {g:Gd} (h:satV n m=some g):okG g:=by
 rw [satV] at h
 split at h
 ·rename_i hm
  have:=zks hm
  cases h
  exact ⟨by simp only;omega,by simp only;omega,by simp only;omega,by simp only;omega,by simp⟩
 ·cases h
theorem zet {g:Gd} (h:okG g) {x y:Nat} (hx:x<g.w) (hy:y<g.h):y*g.w+x<g.b.length:=by
 rw [h.2.2.2.2,Nat.mul_comm g.w]
 have:(y+1)*g.w<=g.h*g.w:=Nat.mul_le_mul_right _ hy
 rw [Nat.add_mul,Nat.one_mul] at this
 omega
theorem za3 {g:Gd} (h:okG g) {y:Nat} (hy:y<g.h):(g.row y).length=g.w:=by
 have h1:=zet h (x:=0) (by have:=h.1;omega) hy
 have:(y+1)*g.w<=g.h*g.w:=Nat.mul_le_mul_right _ hy
 rw [Nat.add_mul,Nat.one_mul] at this
 rw [Gd.row,Zw,ZA,h.2.2.2.2,Nat.mul_comm g.w]
 omega
theorem zrx {g:Gd} {x y:Nat} (hx:x<g.w):(g.row y).getD x false=g.at x y:=by
 rw [Gd.row,Gd.at,Zd,Zd,List.getElem?_take_of_lt hx,ZZ]
theorem zpm (g:Gd) (h:okG g):∀y,y<=g.h->(gtxGo g y).length=y*(g.w+1):=by
 intro y
 induction y with
 | zero=>intro _;simp [gtxGo]
 | succ y ih =>
  intro hy
  rw [gtxGo,Zc,List.length_map,za3 h (by omega),Zk,ih (by omega),Nat.add_mul,Nat.one_mul]
  omega
theorem zh1 {g:Gd} (h:okG g):okG (turnG g):=⟨h.2.2.1,h.2.2.2.1,h.1,h.2.1,by simp [turnG,Nat.mul_comm]⟩
theorem zhO (g:Gd):repB g 0 g.h=true/\repB g g.w 0=true:=by
 have key:∀y,y<g.h->rturn (g.row y) (g.row y) 0=true:=fun y _=>by simp [rturn]
 refine ⟨?_,?_⟩
 ·rw [repB,Zu]
  intro y hy
  have hy:=ZG.1 hy
  rw [Nat.mod_self,Nat.add_zero,Nat.mod_eq_of_lt hy,Nat.zero_mod]
  exact key y hy
 ·rw [repB,Zu]
  intro y hy
  have hy:=ZG.1 hy
  rw [Nat.zero_mod,Nat.add_zero,Nat.mod_eq_of_lt hy,Nat.mod_self]
  exact key y hy
theorem zpt (g:Gd):∀f a,1<=a->1<=f->a+f=g.w+1->a<=latA g f a/\latA g f a<=g.w:=by
 intro f
 induction f with
 | zero=>intro a _ h1;omega
 | succ f ih =>
  intro a ha _ hf
  rw [latA]
  split
  ·omega
  ·rename_i hc
   have:1<=f:=by
    rcases Nat.eq_zero_or_pos f with e | e
    ·exfalso
     apply hc
     rw [show a=g.w by omega]
     exact (zhO g).2
    ·exact e
   have:=ih (a+1) (by omega) this (by omega)
   omega
theorem zpF {a:Int} {n:Nat} (hn:0<n):((modZ a n:Nat):Int)=Int.tmod (Int.tmod a n+n) n/\modZ a n<n /\ -(n:Int)<Int.tmod a n/\Int.tmod a n<n:=by
 have h1 : -(n:Int)<Int.tmod a n/\Int.tmod a n<n:=by
  have:=Int.tmod_lt_of_pos a (show (0:Int)<n by omega)
  have:=Int.lt_tmod_of_pos a (show (0:Int)<n by omega)
  omega
 have h2:0<=Int.tmod a n+n:=by omega
 have h3:Int.tmod (Int.tmod a n+n) n=(Int.tmod a n+n) % n:=Int.tmod_eq_emod_of_nonneg h2
 have h4:0<=(Int.tmod a n+n) % n:=Int.emod_nonneg _ (by omega)
 have h5:(Int.tmod a n+n) % n<n:=Int.emod_lt_of_pos _ (by omega)
 unfold modZ
 rw [h3]
 exact ⟨by omega,by omega,h1.1,h1.2⟩
end Go.Proofs.YtbjgpbojjhldaaaGreatDoor
/- The search for the threads that lie over one,in plain Lean. -/
namespace Go.Proofs.YtbjgpbojjhldaaaGreatDoor
set_option maxRecDepth 100000
end Go.Proofs.YtbjgpbojjhldaaaGreatDoor
/- Floats of a thread,in plain Lean. -/
namespace Go.Proofs.YtbjgpbojjhldaaaGreatDoor
set_option maxRecDepth 100000
theorem zpo {l:List Bool} {v:Bool}:∀ {k:Nat},k<l.length->l.getD k false=v->(∀j,j<k->l.getD j false≠v)->l.idxOf? v=some k:=by
 induction l with
 | nil=>intro k h;simp at h
 | cons x l ih =>
  intro k h1 h2 h3
  rw [List.idxOf?_cons]
  cases k with
  | zero =>
   have h2:x=v:=h2
   subst h2;simp
  | succ k =>
   have h4:¬x=v:=fun e=>h3 0 (by omega) e
   have:=ih (k:=k) (by simpa using h1) (by simpa using h2) (fun j hj=>by have:=h3 (j+1) (by omega);simpa using this)
   rw [this]
   simp [h4]
theorem zsz {p:Prop} (h:p:=by
 intro hm
 obtain ⟨j,hj,e⟩:=List.getElem_of_mem hm
 exact h j hj (by rw [Zd,Zf hj];exact e)):p:=h
theorem zmE {l:List Bool} {v:Bool} (h:∀j,j<l.length->l.getD j false≠v):l.idxOf? v=none:=by
 rw [List.idxOf?_eq_none_iff]
 exact zsz
def cycL (l:List Bool) (k:Nat):List Bool:=l.drop k++l.take k
theorem zgi (l:List Bool) (k:Nat):(cycL l k).length=l.length:=by simp [cycL];omega
theorem zou {l:List Bool} {k i:Nat} (hk:k<l.length) (hi:i<l.length):(cycL l k).getD i false=l.getD ((k+i) % l.length) false:=by
 unfold cycL
 rw [Zd,Zd]
 by_cases h:i<l.length-k
 ·rw [ZT (by simpa using h),ZZ,Nat.mod_eq_of_lt (by omega)]
 ·rw [ZN (by simp;omega),ZA]
  have e:(k+i) % l.length=i-(l.length-k):=by
   rw [Nat.mod_eq_sub_mod (by omega),Nat.mod_eq_of_lt (by omega)]
   omega
  rw [e,List.getElem?_take_of_lt (by omega)]
theorem zdj {l:List Bool} {i:Nat} (h:i<l.length):l.drop i=l.getD i false::l.drop (i+1):=by
 rw [ZL h,Zd,Zf h]
 rfl
theorem zhn {l:List Bool} {face:Bool} {i:Nat} (h:i<l.length) (hc:l.getD i false≠face):floGo face (l.drop i) 0=floGo face (l.drop (i+1)) 0:=by
 rw [zdj h,floGo,if_neg hc,if_pos rfl]
theorem zmp {l:List Bool} {face:Bool} {i n:Nat} (h:i<l.length) (hc:l.getD i false=face):floGo face (l.drop i) n=floGo face (l.drop (i+1)) (n+1):=by
 rw [zdj h,floGo,if_pos hc]
theorem zmr {l:List Bool} {face:Bool} {i n:Nat} (h:i<l.length) (hn:1<=n) (hc:l.getD i false≠face):floGo face (l.drop i) n=n::floGo face (l.drop (i+1)) 0:=by
 rw [zdj h,floGo,if_neg hc,if_neg (by omega)]
theorem zph {l:List Bool} {face:Bool} {i n:Nat} (h:l.length<=i) (hn:1<=n):floGo face (l.drop i) n=n::floGo face (l.drop (i+1)) 0:=by
 obtain ⟨m,rfl⟩:∃m,n=m+1:=⟨n-1,by omega⟩
 rw [ZE h,ZE (by omega)]
 rfl
theorem zmq {l:List Bool} {face:Bool} {i:Nat} (h:l.length<=i):floGo face (l.drop i) 0=[]:=by
 rw [ZE h]
 rfl
theorem zil {l:List Bool} {face:Bool} (h:l.idxOf? (!face)=none):floV face l=[l.length]:=by rw [floV,h]
theorem zjO {l:List Bool} {face:Bool} {k:Nat} (h:l.idxOf? (!face)=some k) (hk:k<l.length) (hc:l.getD k false = !face):floV face l=floGo face ((cycL l k).drop 1) 0:=by
 rw [floV,h]
 have h1:=zhn (l:=cycL l k) (face:=face) (i:=0) (by rw [zgi];omega) (by
  rw [zou hk (by omega),Nat.add_zero,Nat.mod_eq_of_lt hk,hc]
  cases face <;> simp)
 exact h1
theorem zmW {a b:List Nat} (h:a.Perm b):∀m,a.foldl max m=b.foldl max m:=by
 induction h with
 | nil=>intro m;rfl
 | cons x _ ih=>intro m;exact ih (max m x)
 | swap x y l =>
  intro m
  simp only [List.foldl_cons]
  congr 1
  omega
 | trans _ _ h1 h2=>intro m;rw [h1 m,h2 m]
theorem zqY:∀(l:List Bool) (face:Bool) (n:Nat),∀x∈floGo face l n,1<=x/\x<=l.length+n:=by
 intro l
 induction l with
 | nil =>
  intro face n x hx
  cases n with
  | zero=>cases hx
  | succ n=>simp [floGo] at hx;simp;omega
 | cons c l ih =>
  intro face n x hx
  rw [floGo] at hx
  split at hx
  ·have:=ih face (n+1) x hx
   simp only [Zk];omega
  ·split at hx
   ·have:=ih face 0 x hx
    simp only [Zk];omega
   ·rcases Zx.1 hx with rfl | h
    ·simp only [Zk];omega
    ·have:=ih face 0 x h
     simp only [Zk];omega
end Go.Proofs.YtbjgpbojjhldaaaGreatDoor
/- Rows of Booleans and grids in memory. -/
namespace Go.Proofs.YtbjgpbojjhldaaaGreatDoor
set_option maxRecDepth 100000
open Go.RowKit
def shBool:Shp Bool where
 size:=1
 cells x:=[.bool x]
 pos:=by omega
 len _:=rfl
 one x u h:=by
  simp at h
  subst h
  rfl
theorem zaI:(Tryz.prog.info? 4).map (fun i=>(i.zero,i.size,i.bytes))=some (some (.bool false),1,1):=by kernel_rfl
theorem zjJ:∀(ws:List Bool),ws.flatMap shBool.cells=ws.map Value.bool:=by
 intro ws
 induction ws with
 | nil=>rfl
 | cons x ws ih=>rw [List.flatMap_cons,ih];rfl
theorem zaX {w:World} {A:Option Addr} {n:Nat} {l:List Bool} (h:Vec shBool w A n l) (hn:0<n):∃b off,A=some ⟨b,off,none⟩/\b<w.heap.size/\∀j,j<n->w.cell? ⟨b,off+j,none⟩=some (.bool (l.getD j false)):=by
 obtain ⟨b,off,e,hb,hc⟩:=h.2 hn
 refine ⟨b,off,e,hb,fun j hj=>?_⟩
 have hl:j<l.length:=by rw [h.1];exact hj
 have:=hc j (l.getD j false) (by rw [Zd,Zf hl];rfl) 0 (.bool (l.getD j false)) rfl
 simpa [shBool] using this
theorem zhg {w:World} {b off n:Nat} {l:List Bool} (hl:l.length=n) (hb:b<w.heap.size) (hc:∀j,j<n->w.cell? ⟨b,off+j,none⟩=some (.bool (l.getD j false))):Vec shBool w (some ⟨b,off,none⟩) n l:=by
 refine ⟨hl,fun _=>⟨b,off,rfl,hb,fun k x hx i u hu=>?_⟩⟩
 obtain ⟨hk,e⟩:=ZB.1 hx
 have hi:i=0:=by
  rcases i with _ | i
  ·rfl
  ·simp [shBool] at hu
 subst hi
 simp [shBool] at hu
 subst hu
 have:=hc k (by omega)
 rw [Zd,Zf hk,Option.getD_some,e] at this
 simpa [shBool] using this
theorem zaD {w:World} {b off n:Nat} {l:List Bool} (h:Vec shBool w (some ⟨b,off,none⟩) n l) {i j:Nat} (hij:i<=j) (hj:j<=n) (h0:0<n):Vec shBool w (some ⟨b,off+i,none⟩) (j-i) ((l.drop i).take (j-i)):=by
 obtain ⟨b',off',e,hb,hc⟩:=zaX h h0
 obtain ⟨rfl,rfl⟩:b=b'/\off=off':=by simpa using e
 refine zhg (by rw [Zw,ZA,h.1];omega) hb (fun k hk=>?_)
 rw [Nat.add_assoc,hc (i+k) (by omega)]
 congr 2
 rw [Zd,Zd,List.getElem?_take_of_lt hk,ZZ]
def GridAt (w:World) (A:Option Addr) (g:Gd):Prop:=Vec shBool w A g.b.length g.b
theorem GridAt.ext {w w':World} {A:Option Addr} {g:Gd} (h:GridAt w A g) (hb:Ext w w'):GridAt w' A g:=Vec.ext h hb
theorem zbC {w:World} {A:Option Addr} {g:Gd} (h:GridAt w A g) (hg:okG g):∃b off,A=some ⟨b,off,none⟩/\b<w.heap.size/\∀x y,x<g.w->y<g.h->w.cell? ⟨b,off+(y*g.w+x),none⟩=some (.bool (g.at x y)):=by
 have h1:=zet hg (x:=0) (y:=0) (by have:=hg.1;omega) (by have:=hg.2.2.1;omega)
 obtain ⟨b,off,e,hb,hc⟩:=zaX h (by omega)
 exact ⟨b,off,e,hb,fun x y hx hy=>hc _ (zet hg hx hy)⟩
theorem zeD {g:Gd} (hg:okG g):g.b.length<=4096:=by
 rw [hg.2.2.2.2]
 exact Nat.mul_le_mul hg.2.1 hg.2.2.2.1
end Go.Proofs.YtbjgpbojjhldaaaGreatDoor
/- Blocks that hold no bytes: a builder's writes leave them alone. -/
namespace Go.Proofs.YtbjgpbojjhldaaaGreatDoor
set_option maxRecDepth 100000
open Go.RowKit
def NoB (w:World) (k:Nat):Prop:=∀c fz,w.heap[k]?≠some (.cells c 5 fz)
theorem NoB.ext {w w':World} {k:Nat} (h:NoB w k) (hk:k<w.heap.size) (hb:Ext w w'):NoB w' k:=fun c fz=>by
 rw [hb.block k hk];exact h c fz
theorem NoB.but {w w':World} {k:Nat} {E:Option Nat} (h:NoB w k) (hk:k<w.heap.size) (hb:But E w w') (hne:some k≠E):NoB w' k:=fun c fz=>by
 rw [hb.block k hk hne];exact h c fz
theorem NoB.new (w:World) (cs:Array Value) (t:TypeId) (ht:t≠5):NoB (w.alloc (.cells cs t)) w.heap.size:=fun c fz h=>by
 have h1:(w.alloc (.cells cs t)).heap[w.heap.size]?=some (.cells cs t):=heap_alloc_new w _
 rw [h1] at h
 injection h with h2
 injection h2 with h3 h4
 exact ht h4
theorem NoB.row {w:World} {B k off n c size:Nat} {e:TypeId} {xs:List Value} (h:w.ownsRow B e size (.slice (some ⟨k,off,none⟩) n c) n xs) (he:e≠5):NoB w k:=fun c fz hc=>by
 rcases h.2 with ⟨h0, -⟩ | ⟨g,cap,cur,h0, -,hg, -⟩
 ·cases h0
 ·injection h0 with h1
  injection h1 with h1
  injection h1 with h1
  subst h1
  rw [hg] at hc
  injection hc with h2
  injection h2 with h3 h4
  exact he h4
theorem NoB.kept {w w':World} {k b:Nat} (h:NoB w k) (hk:k<w.heap.size) (hne:k≠b) (ho:Lib.OthersKept 5 (some b) w w'):w'.heap[k]?=w.heap[k]?:=by
 have h1:w.heap[k]?=some w.heap[k]:=Array.getElem?_eq_getElem hk
 rw [h1]
 exact ho k _ h1 (by simpa using hne) fun c fz e=>h c fz (by rw [h1,e])
theorem NoB.set {w:World} {k:Nat} (h:NoB w k) (p:Addr) (v:Value):NoB (w.setCell p v) k:=fun c fz hc=>by
 simp only [World.setCell,Array.getElem?_modify] at hc
 split at hc
 ·rcases hx:w.heap[k]? with _ | o
  ·rw [hx] at hc;cases hc
  ·rw [hx] at hc
   cases o with
   | cells c' t f =>
    injection hc with h2
    injection h2 with h3 h4 h5
    subst h4
    exact h _ _ hx
   | _=>injection hc with h2;cases h2
 ·exact h c fz hc
end Go.Proofs.YtbjgpbojjhldaaaGreatDoor
/- What a script holds,in memory. -/
namespace Go.Proofs.YtbjgpbojjhldaaaGreatDoor
set_option maxRecDepth 100000
open Go.RowKit
def HoldG (w:World) (S:Nat) (p:Option Addr) (g:Option (Int×Int×Int×Int)):Prop:=match g with
 | none=>p=none
 | some (a,b,c,d)=>∃G,p=some ⟨G,0,none⟩/\G≠S/\G<w.heap.size/\w.cell? ⟨G,0,none⟩=some (.int .i64 a)/\w.cell? ⟨G,1,none⟩=some (.int .i64 b)/\w.cell? ⟨G,2,none⟩=some (.int .i64 c)/\w.cell? ⟨G,3,none⟩=some (.int .i64 d)/\NoB w G
def HoldC (w:World) (S:Nat) (p:Option Addr) (g:Option Gd):Prop:=match g with
 | none=>p=none
 | some g=>∃G b off c,p=some ⟨G,0,none⟩/\G≠S/\G<w.heap.size/\b≠S/\b<w.heap.size/\w.cell? ⟨G,0,none⟩=some (.int .i64 g.w)/\w.cell? ⟨G,1,none⟩=some (.int .i64 g.h)/\w.cell? ⟨G,2,none⟩=some (.slice (some ⟨b,off,none⟩) g.b.length c)/\g.b.length<=c/\GridAt w (some ⟨b,off,none⟩) g/\okG g/\NoB w G/\NoB w b
structure StAt (w:World) (S:Nat) (st:Cs):Prop where
 lt:S<w.heap.size
 fz:w.frozen? ⟨S,0,none⟩=false/\w.frozen? ⟨S,1,none⟩=false
 gauge:∃p,w.cell? ⟨S,0,none⟩=some (.pointer p)/\HoldG w S p st.g
 cloth:∃p,w.cell? ⟨S,1,none⟩=some (.pointer p)/\HoldC w S p st.c
 nb:NoB w S
theorem HoldG.but {w w':World} {S:Nat} {p:Option Addr} {g:Option (Int×Int×Int×Int)} (h:HoldG w S p g) (hb:But (some S) w w'):HoldG w' S p g:=by
 cases g with
 | none=>exact h
 | some x =>
  obtain ⟨a,b,c,d⟩:=x
  obtain ⟨G,h1,h2,h3,h4,h5,h6,h7,h8⟩:=h
  have hne:some G≠some S:=by simpa using h2
  exact ⟨G,h1,h2,Zi h3 hb.size,(hb.cell (p:=⟨G,0,none⟩) h3 hne).trans h4,(hb.cell (p:=⟨G,1,none⟩) h3 hne).trans h5,(hb.cell (p:=⟨G,2,none⟩) h3 hne).trans h6,(hb.cell (p:=⟨G,3,none⟩) h3 hne).trans h7,h8.but h3 hb hne⟩
theorem HoldC.but {w w':World} {S:Nat} {p:Option Addr} {g:Option Gd} (h:HoldC w S p g) (hb:But (some S) w w'):HoldC w' S p g:=by
 cases g with
 | none=>exact h
 | some g =>
  obtain ⟨G,b,off,c,h1,h2,h3,h4,h5,h6,h7,h8,h9,ab,ac,ad,ae⟩:=h
  have hne:some G≠some S:=by simpa using h2
  have aa:some b≠some S:=by simpa using h4
  refine ⟨G,b,off,c,h1,h2,Zi h3 hb.size,h4,Zi h5 hb.size,(hb.cell (p:=⟨G,0,none⟩) h3 hne).trans h6,(hb.cell (p:=⟨G,1,none⟩) h3 hne).trans h7,(hb.cell (p:=⟨G,2,none⟩) h3 hne).trans h8,h9,?_,ac,ad.but h3 hb hne,ae.but h5 hb aa⟩
  refine Vec.keep ab hb.size fun b' off' e o=>?_
  cases e
  exact hb.cell (p:=⟨b,o,none⟩) h5 aa
theorem StAt.ext {w w':World} {S:Nat} {st:Cs} (h:StAt w S st) (hb:Ext w w'):StAt w' S st:=by
 obtain ⟨p,h1,h2⟩:=h.gauge
 obtain ⟨q,h3,h4⟩:=h.cloth
 exact ⟨Zi h.lt (Zt hb),⟨(Below.frozen (p:=⟨S,0,none⟩) hb h.lt).trans h.fz.1,(Below.frozen (p:=⟨S,1,none⟩) hb h.lt).trans h.fz.2⟩,
  ⟨p,(Zl (p:=⟨S,0,none⟩) hb h.lt).trans h1,h2.but (But.of_ext hb _)⟩,⟨q,(Zl (p:=⟨S,1,none⟩) hb h.lt).trans h3,h4.but (But.of_ext hb _)⟩,h.nb.ext h.lt hb⟩
theorem zrH (w:World) (t:TypeId) (ht:t≠5):StAt (w.alloc (.cells #[.pointer none,.pointer none] t)) w.heap.size cs0:=by
 have h1:(w.alloc (.cells #[.pointer none,.pointer none] t)).heap[w.heap.size]?=some (.cells #[.pointer none,.pointer none] t):=heap_alloc_new w _
 refine ⟨by simp,⟨?_,?_⟩,⟨none,?_,rfl⟩,⟨none,?_,rfl⟩,NoB.new _ _ _ ht⟩
 ·simp only [World.frozen?];rw [h1];simp
 ·simp only [World.frozen?];rw [h1];simp
 ·rw [cell_of_row _ w.heap.size 0 _ t (0,0) h1];rfl
 ·rw [cell_of_row _ w.heap.size 1 _ t (0,0) h1];rfl
theorem StAt.setG {w:World} {S:Nat} {st:Cs} (h:StAt w S st) {p:Option Addr} {g:Option (Int×Int×Int×Int)} (hg:HoldG w S p g):StAt (w.setCell ⟨S,0,none⟩ (.pointer p)) S ⟨g,st.c⟩:=by
 obtain ⟨p0,h1,h2⟩:=h.gauge
 obtain ⟨q,h3,h4⟩:=h.cloth
 have hb:But (some S) w (w.setCell ⟨S,0,none⟩ (.pointer p)):=(But.refl _ _).own rfl _
 refine ⟨by simpa [World.setCell] using h.lt,⟨by rw [Zo];exact h.fz.1,by rw [Zo];exact h.fz.2⟩,⟨p,Zq w _ _ h1,hg.but hb⟩,⟨q,?_,h4.but hb⟩,h.nb.set _ _⟩
 rw [Zg w ⟨S,0,none⟩ ⟨S,1,none⟩ _ (by simp)]
 exact h3
theorem StAt.setC {w:World} {S:Nat} {st:Cs} (h:StAt w S st) {p:Option Addr} {g:Option Gd} (hg:HoldC w S p g):StAt (w.setCell ⟨S,1,none⟩ (.pointer p)) S ⟨st.g,g⟩:=by
 obtain ⟨p0,h1,h2⟩:=h.gauge
 obtain ⟨q,h3,h4⟩:=h.cloth
 have hb:But (some S) w (w.setCell ⟨S,1,none⟩ (.pointer p)):=(But.refl _ _).own rfl _
 refine ⟨by simpa [World.setCell] using h.lt,⟨by rw [Zo];exact h.fz.1,by rw [Zo];exact h.fz.2⟩,⟨p0,?_,h2.but hb⟩,⟨p,Zq w _ _ h3,hg.but hb⟩,h.nb.set _ _⟩
 rw [Zg w ⟨S,1,none⟩ ⟨S,0,none⟩ _ (by simp)]
 exact h1
end Go.Proofs.YtbjgpbojjhldaaaGreatDoor
