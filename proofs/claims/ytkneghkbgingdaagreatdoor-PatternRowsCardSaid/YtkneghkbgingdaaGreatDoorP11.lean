/- The library's words on strings and numbers, read in the words of the stitches' texts. -/
import Derived.Test.YtkneghkbgingdaaGreatDoorP00
import Derived.Lib.Split
import Derived.Lib.Join
import Derived.Lib.ItoaNum
import Derived.Lib.Atoi
import Derived.Lib.AtoiAll
import Derived.Test.YtkneghkbgingdaaGreatDoorP10
import Derived.Test.YtkneghkbgingdaaGreatDoorP03
import Derived.Lib.AtoiBound
import Derived.Lib.AppendIntMem
import Derived.Lib.AtoiErrMem
import Derived.Test.YtkneghkbgingdaaGreatDoorP05
import Derived.Test.YtkneghkbgingdaaGreatDoorP01
namespace Go.Proofs.YtkneghkbgingdaaGreatDoor
set_option maxRecDepth 100000
open Go
theorem zgr {n:Nat} (h:n<10):dg n=UInt8.ofNat (48+n):=by rw [dg,Nat.mod_eq_of_lt h]
theorem zgB:∀(f n:Nat),n<10 ^ (f+1)→decF (f+1) n=Lib.decDigits n:=by
 intro f
 induction f with
 | zero =>
  intro n h
  have h:n<10:=by simpa using h
  rw [Lib.decDigits,dif_pos h,decF,if_pos h,zgr h]
 | succ f ih =>
  intro n h
  rw [Lib.decDigits,decF]
  by_cases hn:n<10
  ·rw [dif_pos hn,if_pos hn,zgr hn]
  ·rw [dif_neg hn,if_neg hn,ih (n / 10) (by rw [Nat.pow_succ] at h;omega),zgr (Nat.mod_lt _ (by omega))]
theorem zkV:∀(f n:Nat),(decF f n).length≤f:=by
 intro f
 induction f with
 | zero=>intro n;simp [decF]
 | succ f ih =>
  intro n
  rw [decF]
  split
  ·simp
  ·have:=ih (n / 10)
   simp only [List.length_append,List.length_cons,List.length_nil]
   omega
theorem zaj (n:Nat):(decD n).length≤20:=zkV 20 n
theorem zmh {n:Nat} (h:n<10 ^ 20):Lib.decDigits n=decD n:=(zgB 19 n h).symm
theorem zk3 {n:Int} (h0:0≤n) (h1:n≤1000000000000):Lib.itoa n=decD n.toNat:=by
 rw [Lib.itoa,if_neg (by omega),zmh (by omega)]
theorem zbx (c x:UInt8) (l:List UInt8):Lib.index (x::l) [c]=if c=x then 0 else if Lib.index l [c] == -1 then -1 else Lib.index l [c]+1:=by
 rw [Lib.index]
 by_cases h:c=x <;> simp [h,List.isPrefixOf]
theorem zec (c:UInt8):Lib.index [] [c] = -1:=rfl
theorem znE (c:UInt8):∀(m:Nat) (l:List UInt8),l.length≤m→Lib.splitK [c] 0 (Lib.count l [c]) l=spl c l:=by
 intro m
 induction m with
 | zero =>
  intro l h
  obtain rfl:l=[]:=List.eq_nil_of_length_eq_zero (by omega)
  rw [Lib.count_miss (zec c)]
  rfl
 | succ m ih =>
  intro l h
  rcases hi:l with _ | ⟨x,t⟩
  ·rw [Lib.count_miss (zec c)];rfl
  ·subst hi
   by_cases hx:x=c
   ·subst hx
    have h0:Lib.index (x::t) [x]=(0:Nat):=by rw [zbx];simp
    rw [Lib.count_hit (by simp) h0,Nat.add_comm 1,Lib.splitK,h0]
    have h2:=ih t (by simpa using h)
    have h3:∀a:List UInt8,(List.drop ([x]:List UInt8).length (x::a))=a:=fun _=>rfl
    simp [h2,spl]
   ·have hcx:¬c=x:=fun e=>hx e.symm
    rw [spl,if_neg hx]
    rcases Lib.index_spec t [c] with ⟨hm,_⟩ | ⟨i,hm,_⟩
    ·have h1:Lib.index (x::t) [c] = -1:=by rw [zbx,if_neg hcx,hm];rfl
     have ht:t.length≤m:=by simpa using h
     have h2:=ih t ht
     rw [Lib.count_miss hm] at h2
     rw [Lib.count_miss h1,←h2]
     rfl
    ·have h1:Lib.index (x::t) [c]=((i+1:Nat):Int):=by
      rw [zbx,if_neg hcx,hm,if_neg (by first | (simp;done) | (simp;omega))];rfl
     have ht:t.length≤m:=by simpa using h
     have h2:=ih t ht
     rw [Lib.count_hit (by simp) hm,Nat.add_comm 1,Lib.splitK,hm,if_neg (by first | (simp;done) | (simp;omega))] at h2
     rw [Lib.count_hit (by simp) h1,Nat.add_comm 1,Lib.splitK,h1,if_neg (by first | (simp;done) | (simp;omega)),←h2]
     simp only [Int.toNat_natCast,Nat.add_zero,List.take_succ_cons,List.length_cons,List.length_nil,List.drop_succ_cons,Nat.zero_add]
theorem zff (c x:UInt8) (t:List UInt8):(spl c (x::t)).length=if x=c then (spl c t).length+1 else (spl c t).length:=by
 rw [spl]
 split
 ·simp
 ·have:=zb8 c t
  rcases h:spl c t with _ | ⟨y,r⟩
  ·exact absurd h this
  ·simp
theorem zfk (c:UInt8):∀(m:Nat) (l:List UInt8),l.length≤m→(spl c l).length=Lib.count l [c]+1:=by
 intro m
 induction m with
 | zero =>
  intro l h
  obtain rfl:l=[]:=List.eq_nil_of_length_eq_zero (by omega)
  rw [Lib.count_miss (zec c)]
  rfl
 | succ m ih =>
  intro l h
  rcases hi:l with _ | ⟨x,t⟩
  ·rw [Lib.count_miss (zec c)];rfl
  ·subst hi
   have h2:=ih t (by simpa using h)
   rw [zff]
   by_cases hx:x=c
   ·subst hx
    have h0:Lib.index (x::t) [x]=(0:Nat):=by rw [zbx];simp
    have h3:=Lib.count_hit (by simp) h0
    rw [if_pos rfl,h2,h3]
    simp
    omega
   ·have hcx:¬c=x:=fun e=>hx e.symm
    rw [if_neg hx,h2]
    rcases Lib.index_spec t [c] with ⟨hm,_⟩ | ⟨i,hm,_⟩
    ·have h1:Lib.index (x::t) [c] = -1:=by rw [zbx,if_neg hcx,hm];rfl
     rw [Lib.count_miss hm,Lib.count_miss h1]
    ·have h1:Lib.index (x::t) [c]=((i+1:Nat):Int):=by
      rw [zbx,if_neg hcx,hm,if_neg (by first | (simp;done) | (simp;omega))];rfl
     rw [Lib.count_hit (by simp) hm,Lib.count_hit (by simp) h1]
     simp
theorem zjQ (c:UInt8) (s:ByteArray):(Lib.splitB ⟨#[c]⟩ 0 (Lib.countB s ⟨#[c]⟩) s).map (·.data.toList)=spl c s.data.toList:=by
 rw [Lib.splitB_data]
 exact znE c _ _ (Nat.le_refl _)
theorem zky (c:UInt8):∀(ws:List (List UInt8)),Lib.join ws [c]=joinB c ws:=by
 intro ws
 induction ws with
 | nil=>rfl
 | cons x ws ih =>
  cases ws with
  | nil=>simp [Lib.join_one,joinB]
  | cons y ws =>
   rw [Lib.join_cons]
   rw [Lib.join_cons] at ih
   rw [joinB,←ih]
   simp [Lib.joinTail]
theorem zdp {c:UInt8} (h:isDg c=true):48≤c.toNat∧c.toNat≤57:=by
 simp only [isDg,Bool.and_eq_true,decide_eq_true_eq,UInt8.le_iff_toNat_le] at h
 exact h
theorem zfG:∀(l:List UInt8) (acc:Nat),l.all isDg=true→Lib.decFrom acc l=some (l.foldl (fun v c=>10*v+(c.toNat-48)) acc):=by
 intro l
 induction l with
 | nil=>intro acc _;rfl
 | cons c r ih =>
  intro acc h
  have h1:isDg c=true∧r.all isDg=true:=by simpa using h
  rw [Lib.decFrom,Lib.digitVal,if_pos (zdp h1.1)]
  simp only
  rw [ih _ h1.2,List.foldl_cons,Nat.mul_comm acc 10]
theorem zcQ {l:List UInt8} (h:l.all isDg=true) (hl:l≠[]):Lib.atoi l=some (valD l:Int):=by
 rcases l with _ | ⟨c,r⟩
 ·exact absurd rfl hl
 ·have h1:isDg c=true∧r.all isDg=true:=by simpa using h
  have h2:=zdp h1.1
  have h3:(c==45)=false:=by
   rw [beq_eq_false_iff_ne]
   rintro rfl
   simp at h2
  have h4:(c==43)=false:=by
   rw [beq_eq_false_iff_ne]
   rintro rfl
   simp at h2
  rw [Lib.atoi,h3,h4]
  have h5:Lib.decNat (c::r)=some (valD (c::r)):=by
   rw [Lib.decNat,List.isEmpty_cons,if_neg (by simp),zfG _ 0 h]
   rfl
  rw [h5]
  rfl
theorem zkf:∀(k:Nat) (l:List UInt8),headD k l≤k∧headD k l≤l.length∧(l.take (headD k l)).all isDg=true:=by
 intro k
 induction k with
 | zero=>intro l;simp [headD]
 | succ k ih =>
  intro l
  cases l with
  | nil=>simp [headD]
  | cons c r =>
   obtain ⟨h1,h2,h3⟩:=ih r
   rw [headD]
   split
   ·rename_i hc
    refine ⟨by omega,by simp only [List.length_cons];omega,?_⟩
    rw [List.take_succ_cons,List.all_cons,hc,h3];rfl
   ·simp
theorem zhM {k:Nat}:∀ {l:List UInt8} {n:Nat},n≤headD k l→(n<headD k l↔n<k∧n<l.length∧isDg (l.getD n 0)=true):=by
 induction k with
 | zero=>intro l n h;simp [headD] at h ⊢
 | succ k ih =>
  intro l n h
  cases l with
  | nil=>simp [headD] at h ⊢
  | cons c r =>
   rw [headD] at h ⊢
   by_cases hc:isDg c=true
   ·rw [if_pos hc] at h ⊢
    cases n with
    | zero=>simp [hc]
    | succ n =>
     have:=ih (l:=r) (n:=n) (by omega)
     simp only [List.getD_cons_succ,List.length_cons,Nat.add_lt_add_iff_right]
     exact this
   ·rw [if_neg hc] at h ⊢
    obtain rfl:n=0:=by omega
    simp [hc]
theorem zlQ:∀(l:List UInt8) (acc:Nat),l.all isDg=true→l.foldl (fun v c=>10*v+(c.toNat-48)) acc<(acc+1)*10 ^ l.length:=by
 intro l
 induction l with
 | nil=>intro acc _;simp
 | cons c r ih =>
  intro acc h
  have h1:isDg c=true∧r.all isDg=true:=by simpa using h
  have h2:=zdp h1.1
  have h3:=ih (10*acc+(c.toNat-48)) h1.2
  rw [List.foldl_cons,List.length_cons,Nat.pow_succ]
  refine Nat.lt_of_lt_of_le h3 ?_
  rw [Nat.mul_comm (10 ^ r.length) 10,←Nat.mul_assoc]
  exact Nat.mul_le_mul_right _ (by omega)
theorem zcb {l:List UInt8} (h:l.all isDg=true) (hl:l.length≤4):valD l<10000:=by
 have h1:=zlQ l 0 h
 have h2:10 ^ l.length≤10 ^ 4:=Nat.pow_le_pow_right (by omega) hl
 unfold valD
 omega
end Go.Proofs.YtkneghkbgingdaaGreatDoor
/- The library's functions that the stitches' texts call,in the words of this claim. -/
namespace Go.Proofs.YtkneghkbgingdaaGreatDoor
set_option maxRecDepth 100000
open Go.RowKit
theorem zaX (l:List UInt8):(⟨l.toArray⟩:ByteArray).data.toList=l:=by simp
theorem zaM (l:List UInt8):(⟨l.toArray⟩:ByteArray).size=l.length:=by simp [ByteArray.size]
theorem zab (a b:List UInt8):(⟨a.toArray⟩++⟨b.toArray⟩:ByteArray)=⟨(a++b).toArray⟩:=by
 apply ByteArray.ext
 simp
theorem zaq (l:List UInt8) (k:Nat):(⟨l.toArray⟩:ByteArray).extract 0 k=⟨(l.take k).toArray⟩:=by
 apply ByteArray.ext
 apply Array.toList_inj.1
 rw [Lib.extract_from_zero]
theorem zag (l:List UInt8) (k n:Nat) (h:l.length≤n):(⟨l.toArray⟩:ByteArray).extract k n=⟨(l.drop k).toArray⟩:=by
 apply ByteArray.ext
 apply Array.toList_inj.1
 rw [Lib.extract_data]
 exact List.take_of_length_le (by simp;omega)
theorem zam (l:List UInt8) (k:Nat) (h:k<(⟨l.toArray⟩:ByteArray).size):(⟨l.toArray⟩:ByteArray)[k]=l.getD k 0:=by
 have h2:k<l.length:=by simpa [ByteArray.size] using h
 rw [List.getD_eq_getElem?_getD,List.getElem?_eq_getElem h2]
 rfl
theorem zan (n:Int) (h0:0≤n) (h1:n≤1000000000000) (w:World) (hg:Glob w) :
  Calls Tryz.prog 37 #[.int .i64 n] w fun e w'=>e = .returned (.string ⟨(decD n.toNat).toArray⟩)∧Ext w w':=by
 refine (Tryz.strconv_Itoa n (by omega) (by omega) w hg.tab).mono ?_
 rintro e w' ⟨rfl,k,os,rfl⟩
 exact ⟨by rw [zk3 h0 h1],Lib.below_grow _ _ (Nat.le_refl _) _ _⟩
theorem zda (l:List UInt8) (hl:l.length≤4) (h:l.all isDg=true) (h0:l≠[]) (w:World) :
  Calls Tryz.prog 114 #[.string ⟨l.toArray⟩] w fun e w'=>e = .returned (.tuple #[.int .i64 (valD l:Int),.nilIface])∧Ext w w':=by
 refine (Tryz.strconv_Atoi ⟨l.toArray⟩ (valD l:Int) (by rw [zaM];omega) (by rw [zaX];exact zcQ h h0) w).mono ?_
 rintro e w' ⟨rfl,t,rfl⟩
 exact ⟨rfl,Lib.bytesWorld_below _ _ _⟩
theorem zd9 (w:World) (hg:Glob w) :
  Calls Tryz.prog 114 #[.string ⟨#[]⟩] w fun e w'=>(∃te p,e = .returned (.tuple #[.int .i64 0,.iface te (.pointer (some p))]))∧Ext w w':=by
 obtain ⟨tp,p,hv⟩:=hg.syn
 refine (Tryz.strconv_Atoi_err_var ⟨#[]⟩ (by simp [ByteArray.size]) rfl tp p w hv).mono ?_
 rintro e w' ⟨N,rfl,_,_,hb⟩
 exact ⟨⟨_,_,rfl⟩,hb⟩
theorem zbk (w:World) (hg:Glob w) :
  Calls Tryz.prog 114 #[.string ByteArray.empty] w fun e w'=>(∃te p,e = .returned (.tuple #[.int .i64 0,.iface te (.pointer (some p))]))∧Ext w w':=zd9 w hg
def shStr:Shp (List UInt8) where
 size:=1
 cells x:=[.string ⟨x.toArray⟩]
 pos:=by omega
 len _:=rfl
 one x u h:=by
  simp at h
  subst h
  rfl
theorem zbs:(Tryz.prog.info? 9).map (fun i=>(i.zero,i.size,i.bytes))=some (some (.string ⟨#[]⟩),1,16):=by kernel_rfl
theorem zeD (l:List UInt8) (c:UInt8) (hl:l.length≤100000) (w:World) (hg:Glob w) :
  Calls Tryz.prog 50 #[.string ⟨l.toArray⟩,.string ⟨#[c]⟩] w fun e w'=>∃g n,e = .returned (.slice (some ⟨g,0,none⟩) n n)∧Ext w w'∧Vec shStr w' (some ⟨g,0,none⟩) n (spl c l):=by
 obtain ⟨m,hm⟩:=hg.max
 refine (Tryz.strings_Split ⟨l.toArray⟩ ⟨#[c]⟩ m w (by rw [zaM];omega) hm (by simp [ByteArray.size])).mono ?_
 rintro e w' ⟨rfl,rfl⟩
 have hs:=zjQ c ⟨l.toArray⟩
 rw [zaX] at hs
 have hlen:(spl c l).length=Lib.countB ⟨l.toArray⟩ ⟨#[c]⟩+1:=by
  rw [zfk c _ l (Nat.le_refl _),Lib.countB,zaX]
 refine ⟨w.heap.size,_,rfl,(Ext.refl _).alloc _,hlen,fun _=>⟨w.heap.size,0,rfl,by simp,fun k x hx i u hu=>?_⟩⟩
 have hi:i=0:=by
  rcases i with _ | i
  ·rfl
  ·simp [shStr] at hu
 subst hi
 have hu2:u = .string ⟨x.toArray⟩:=by simp [shStr] at hu;exact hu.symm
 subst hu2
 have h1:(w.alloc (.cells ((Lib.splitB ⟨#[c]⟩ 0 (Lib.countB ⟨l.toArray⟩ ⟨#[c]⟩) ⟨l.toArray⟩).map Value.string).toArray 9)).heap[w.heap.size]?=some (.cells ((Lib.splitB ⟨#[c]⟩ 0 (Lib.countB ⟨l.toArray⟩ ⟨#[c]⟩) ⟨l.toArray⟩).map Value.string).toArray 9):=heap_alloc_new w _
 rw [cell_of_row _ w.heap.size _ _ 9 (0,0) h1]
 rw [←hs,List.getElem?_map] at hx
 obtain ⟨y,hy,rfl⟩:=Option.map_eq_some_iff.1 hx
 simp [hy,shStr]
theorem zgy:∀(ws:List (List UInt8)),ws.flatMap shStr.cells=ws.map (fun l=>Value.string ⟨l.toArray⟩):=by
 intro ws
 induction ws with
 | nil=>rfl
 | cons x ws ih=>rw [List.flatMap_cons,ih];rfl
theorem zjY (B n c:Nat) (A:Option Addr) (ws:List (List UInt8)) (d:UInt8) (e:TypeId) (w:World) (hv:OwnV shStr w B e (.slice A n c) n ws) (hl:(joinB d ws).length≤100000000) (hws:n≤100000000) :
  Calls Tryz.prog 183 #[.slice A n c,.string ⟨#[d]⟩] w fun e w'=>e = .returned (.string ⟨(joinB d ws).toArray⟩)∧Ext w w':=by
 have hn:ws.length=n:=OwnV.len hv
 rcases hv.2 with ⟨h0,h1⟩ | ⟨g,cap,cur,h0,hB,hg,hnc,hcm,hsz,hcur⟩
 ·cases h0
  obtain rfl:ws=[]:=List.eq_nil_of_length_eq_zero hn
  refine (Tryz.strings_Join_none none 0 ⟨#[d]⟩ w).mono ?_
  rintro e w' ⟨rfl,rfl⟩
  exact ⟨rfl,Ext.refl _⟩
 ·cases h0
  have hx:(ws.map (fun l=>(⟨l.toArray⟩:ByteArray))).map (·.data.toList)=ws:=by
   rw [List.map_map]
   conv=>rhs;rw [←List.map_id ws]
   apply List.map_congr_left
   intro l _
   simp
  have hj:Lib.join ((ws.map (fun l=>(⟨l.toArray⟩:ByteArray))).map (·.data.toList)) (⟨#[d]⟩:ByteArray).data.toList=joinB d ws:=by
   rw [hx]
   exact zky d ws
  have h9:=Tryz.strings_Join g 0 c (ws.map (fun l=>(⟨l.toArray⟩:ByteArray))) ⟨#[d]⟩ w (fun j x hjx=>?_) (Array.getElem?_eq_some_iff.1 hg).1 (by rw [List.length_map];omega) (by rw [List.length_map];omega) (by rw [hj];omega)
  ·rw [List.length_map,hn] at h9
   refine h9.mono ?_
   rintro e w' ⟨rfl,hb⟩
   exact ⟨by rw [hj],hb⟩
  ·rw [List.getElem?_map] at hjx
   obtain ⟨l,hl1,rfl⟩:=Option.map_eq_some_iff.1 hjx
   rw [cell_of_row _ g _ _ e (0,0) hg]
   have h8:(ws.flatMap shStr.cells)[j]?=some (.string ⟨l.toArray⟩):=by
    rw [zgy,List.getElem?_map,hl1]
    rfl
   rw [←hcur,List.getElem?_take] at h8
   split at h8
   ·rw [Nat.zero_add]
    simpa using h8
   ·cases h8
end Go.Proofs.YtkneghkbgingdaaGreatDoor
/- The text of a stitch. -/
namespace Go.Proofs.YtkneghkbgingdaaGreatDoor
set_option maxRecDepth 100000
open Go.RowKit
theorem zlA (w:World):Calls Tryz.prog 157 #[.int .u8 1] w fun e w'=>e = .returned (.tuple #[.agg #[.string ⟨#[]⟩,.int .i64 0,.int .i64 0,.int .i64 0,.int .i64 0,.bool true,.int .i64 1,.int .i64 1],.bool true])∧Ext w w':=zay 1 (by omega) (by omega) w
theorem zdo (w:World):Calls Tryz.prog 157 #[.int .u8 3] w fun e w'=>e = .returned (.tuple #[.agg #[.string ⟨#[102]⟩,.int .i64 2,.int .i64 4,.int .i64 0,.int .i64 0,.bool true,.int .i64 2,.int .i64 1],.bool true])∧Ext w w':=zay 3 (by omega) (by omega) w
theorem zg4 (w:World):Calls Tryz.prog 157 #[.int .u8 4] w fun e w'=>e = .returned (.tuple #[.agg #[.string ⟨#[108]⟩,.int .i64 2,.int .i64 4,.int .i64 0,.int .i64 0,.bool true,.int .i64 2,.int .i64 1],.bool true])∧Ext w w':=zay 4 (by omega) (by omega) w
theorem zg2 (w:World):Calls Tryz.prog 157 #[.int .u8 5] w fun e w'=>e = .returned (.tuple #[.agg #[.string ⟨#[109]⟩,.int .i64 2,.int .i64 4,.int .i64 0,.int .i64 0,.bool true,.int .i64 1,.int .i64 2],.bool true])∧Ext w w':=zay 5 (by omega) (by omega) w
theorem zgU (w:World):Calls Tryz.prog 157 #[.int .u8 6] w fun e w'=>e = .returned (.tuple #[.agg #[.string ⟨#[120]⟩,.int .i64 1,.int .i64 6,.int .i64 1,.int .i64 6,.bool true,.int .i64 3,.int .i64 3],.bool true])∧Ext w w':=zay 6 (by omega) (by omega) w
theorem zgl (w:World):Calls Tryz.prog 157 #[.int .u8 7] w fun e w'=>e = .returned (.tuple #[.agg #[.string ⟨#[121]⟩,.int .i64 1,.int .i64 6,.int .i64 1,.int .i64 6,.bool true,.int .i64 3,.int .i64 3],.bool true])∧Ext w w':=zay 7 (by omega) (by omega) w
theorem zgi (w:World):Calls Tryz.prog 157 #[.int .u8 8] w fun e w'=>e = .returned (.tuple #[.agg #[.string ⟨#[115]⟩,.int .i64 0,.int .i64 0,.int .i64 0,.int .i64 0,.bool true,.int .i64 1,.int .i64 1],.bool true])∧Ext w w':=zay 8 (by omega) (by omega) w
theorem zei (w:World):Calls Tryz.prog 157 #[.int .u8 10] w fun e w'=>e = .returned (.tuple #[.agg #[.string ⟨#[111]⟩,.int .i64 1,.int .i64 200,.int .i64 0,.int .i64 0,.bool true,.int .i64 2,.int .i64 0],.bool true])∧Ext w w':=zay 10 (by omega) (by omega) w
theorem znd {s:St} (h:okSt s=true):0≤s.a∧s.a≤200∧0≤s.b∧s.b≤6:=by
 obtain ⟨hk,ha,hb,_⟩:=zj7 h
 have ha:=za8 ha
 have hb:=za8 hb
 rcases zaB hk with e | e | e | e | e | e | e | e | e | e <;> rw [e] at ha hb <;> simp [fa0,fa1,fb0,fb1] at ha hb <;> omega
set_option maxHeartbeats 2000000 in
theorem zno (p:Bool) (a b:Int) (w:World) :
  Calls Tryz.prog 182 #[.agg #[.int .u8 1,.bool p,.int .i64 a,.int .i64 b]] w fun e w'=>e = .returned (.string ⟨(wordT ⟨1,p,a,b⟩).toArray⟩)∧Ext w w':=by
 cases p
 ·go_enter Tryz.func182,Tryz.ntmps182
  go_wp2_with (first
   | (go_at_call 157;((with_reducible refine (zlA _).mono ?_);rintro e w1 ⟨rfl,hq1⟩;obtain ⟨hc1,hf1,hz1⟩:=hq1.facts)))
  exact bodyPost_ret (v := .string ((⟨#[107]⟩:ByteArray)++(⟨#[]⟩:ByteArray))) (by simp [results,Tryz.f182,go_sem]) rfl ⟨congrArg (fun x=>Ending.returned (.string x)) (ByteArray.ext (by rw [show wordT ⟨1,false,a,b⟩=[107]++[]++[]++[] from by rfl];simp)),by repeat (first|exact zr _|assumption|refine za ?_ _|refine zd ?_|refine zn ?_ _|refine zt ?_ (by assumption))⟩
 ·go_enter Tryz.func182,Tryz.ntmps182
  go_wp2_with (first
   | (go_at_call 157;((with_reducible refine (zlA _).mono ?_);rintro e w1 ⟨rfl,hq1⟩;obtain ⟨hc1,hf1,hz1⟩:=hq1.facts)))
  exact bodyPost_ret (v := .string ((⟨#[112]⟩:ByteArray)++(⟨#[]⟩:ByteArray))) (by simp [results,Tryz.f182,go_sem]) rfl ⟨congrArg (fun x=>Ending.returned (.string x)) (ByteArray.ext (by rw [show wordT ⟨1,true,a,b⟩=[112]++[]++[]++[] from by rfl];simp)),by repeat (first|exact zr _|assumption|refine za ?_ _|refine zd ?_|refine zn ?_ _|refine zt ?_ (by assumption))⟩
set_option maxHeartbeats 2000000 in
theorem zm7 (p:Bool) (a b:Int) (w:World) :
  Calls Tryz.prog 182 #[.agg #[.int .u8 2,.bool p,.int .i64 a,.int .i64 b]] w fun e w'=>e = .returned (.string ⟨(wordT ⟨2,p,a,b⟩).toArray⟩)∧Ext w w':=by
 go_enter Tryz.func182,Tryz.ntmps182
 go_wp2
 go_ret
 exact ⟨rfl,by repeat (first|exact zr _|assumption|refine za ?_ _|refine zd ?_|refine zn ?_ _|refine zt ?_ (by assumption))⟩
set_option maxHeartbeats 2000000 in
theorem zmS (p:Bool) (a b:Int) (h0:0≤a) (h1:a≤200) (w:World) (hg:Glob w) :
  Calls Tryz.prog 182 #[.agg #[.int .u8 3,.bool p,.int .i64 a,.int .i64 b]] w fun e w'=>e = .returned (.string ⟨(wordT ⟨3,p,a,b⟩).toArray⟩)∧Ext w w':=by
 have HG:=Lib.hid hg
 clear hg
 have d1:=zaj a.toNat
 cases p
 ·go_enter Tryz.func182,Tryz.ntmps182
  go_wp2_with (first
   | (go_at_call 157;((with_reducible refine (zdo _).mono ?_);rintro e w1 ⟨rfl,hq1⟩;obtain ⟨hc1,hf1,hz1⟩:=hq1.facts))
   | (go_at_call 37;(first | ((with_reducible refine (zan a h0 (by omega) _ (HG.out.ext (by repeat (first|exact zr _|assumption|refine za ?_ _|refine zd ?_|refine zn ?_ _|refine zt ?_ (by assumption))))).mono ?_);rintro e w2 ⟨rfl,hq2⟩;obtain ⟨hc2,hf2,hz2⟩:=hq2.facts))))
  exact bodyPost_ret (v := .string ((⟨#[107]⟩:ByteArray)++(⟨#[102]⟩:ByteArray)++(⟨(decD a.toNat).toArray⟩:ByteArray))) (by simp [results,Tryz.f182,go_sem]) rfl ⟨congrArg (fun x=>Ending.returned (.string x)) (ByteArray.ext (by rw [show wordT ⟨3,false,a,b⟩=[107]++[102]++decD a.toNat++[] from by rfl];simp)),by repeat (first|exact zr _|assumption|refine za ?_ _|refine zd ?_|refine zn ?_ _|refine zt ?_ (by assumption))⟩
 ·go_enter Tryz.func182,Tryz.ntmps182
  go_wp2_with (first
   | (go_at_call 157;((with_reducible refine (zdo _).mono ?_);rintro e w1 ⟨rfl,hq1⟩;obtain ⟨hc1,hf1,hz1⟩:=hq1.facts))
   | (go_at_call 37;(first | ((with_reducible refine (zan a h0 (by omega) _ (HG.out.ext (by repeat (first|exact zr _|assumption|refine za ?_ _|refine zd ?_|refine zn ?_ _|refine zt ?_ (by assumption))))).mono ?_);rintro e w2 ⟨rfl,hq2⟩;obtain ⟨hc2,hf2,hz2⟩:=hq2.facts))))
  exact bodyPost_ret (v := .string ((⟨#[112]⟩:ByteArray)++(⟨#[102]⟩:ByteArray)++(⟨(decD a.toNat).toArray⟩:ByteArray))) (by simp [results,Tryz.f182,go_sem]) rfl ⟨congrArg (fun x=>Ending.returned (.string x)) (ByteArray.ext (by rw [show wordT ⟨3,true,a,b⟩=[112]++[102]++decD a.toNat++[] from by rfl];simp)),by repeat (first|exact zr _|assumption|refine za ?_ _|refine zd ?_|refine zn ?_ _|refine zt ?_ (by assumption))⟩
set_option maxHeartbeats 2000000 in
theorem zm3 (p:Bool) (a b:Int) (h0:0≤a) (h1:a≤200) (w:World) (hg:Glob w) :
  Calls Tryz.prog 182 #[.agg #[.int .u8 4,.bool p,.int .i64 a,.int .i64 b]] w fun e w'=>e = .returned (.string ⟨(wordT ⟨4,p,a,b⟩).toArray⟩)∧Ext w w':=by
 have HG:=Lib.hid hg
 clear hg
 have d1:=zaj a.toNat
 cases p
 ·go_enter Tryz.func182,Tryz.ntmps182
  go_wp2_with (first
   | (go_at_call 157;((with_reducible refine (zg4 _).mono ?_);rintro e w1 ⟨rfl,hq1⟩;obtain ⟨hc1,hf1,hz1⟩:=hq1.facts))
   | (go_at_call 37;(first | ((with_reducible refine (zan a h0 (by omega) _ (HG.out.ext (by repeat (first|exact zr _|assumption|refine za ?_ _|refine zd ?_|refine zn ?_ _|refine zt ?_ (by assumption))))).mono ?_);rintro e w2 ⟨rfl,hq2⟩;obtain ⟨hc2,hf2,hz2⟩:=hq2.facts))))
  exact bodyPost_ret (v := .string ((⟨#[107]⟩:ByteArray)++(⟨#[108]⟩:ByteArray)++(⟨(decD a.toNat).toArray⟩:ByteArray))) (by simp [results,Tryz.f182,go_sem]) rfl ⟨congrArg (fun x=>Ending.returned (.string x)) (ByteArray.ext (by rw [show wordT ⟨4,false,a,b⟩=[107]++[108]++decD a.toNat++[] from by rfl];simp)),by repeat (first|exact zr _|assumption|refine za ?_ _|refine zd ?_|refine zn ?_ _|refine zt ?_ (by assumption))⟩
 ·go_enter Tryz.func182,Tryz.ntmps182
  go_wp2_with (first
   | (go_at_call 157;((with_reducible refine (zg4 _).mono ?_);rintro e w1 ⟨rfl,hq1⟩;obtain ⟨hc1,hf1,hz1⟩:=hq1.facts))
   | (go_at_call 37;(first | ((with_reducible refine (zan a h0 (by omega) _ (HG.out.ext (by repeat (first|exact zr _|assumption|refine za ?_ _|refine zd ?_|refine zn ?_ _|refine zt ?_ (by assumption))))).mono ?_);rintro e w2 ⟨rfl,hq2⟩;obtain ⟨hc2,hf2,hz2⟩:=hq2.facts))))
  exact bodyPost_ret (v := .string ((⟨#[112]⟩:ByteArray)++(⟨#[108]⟩:ByteArray)++(⟨(decD a.toNat).toArray⟩:ByteArray))) (by simp [results,Tryz.f182,go_sem]) rfl ⟨congrArg (fun x=>Ending.returned (.string x)) (ByteArray.ext (by rw [show wordT ⟨4,true,a,b⟩=[112]++[108]++decD a.toNat++[] from by rfl];simp)),by repeat (first|exact zr _|assumption|refine za ?_ _|refine zd ?_|refine zn ?_ _|refine zt ?_ (by assumption))⟩
set_option maxHeartbeats 2000000 in
theorem znb (p:Bool) (a b:Int) (h0:0≤a) (h1:a≤200) (w:World) (hg:Glob w) :
  Calls Tryz.prog 182 #[.agg #[.int .u8 5,.bool p,.int .i64 a,.int .i64 b]] w fun e w'=>e = .returned (.string ⟨(wordT ⟨5,p,a,b⟩).toArray⟩)∧Ext w w':=by
 have HG:=Lib.hid hg
 clear hg
 have d1:=zaj a.toNat
 cases p
 ·go_enter Tryz.func182,Tryz.ntmps182
  go_wp2_with (first
   | (go_at_call 157;((with_reducible refine (zg2 _).mono ?_);rintro e w1 ⟨rfl,hq1⟩;obtain ⟨hc1,hf1,hz1⟩:=hq1.facts))
   | (go_at_call 37;(first | ((with_reducible refine (zan a h0 (by omega) _ (HG.out.ext (by repeat (first|exact zr _|assumption|refine za ?_ _|refine zd ?_|refine zn ?_ _|refine zt ?_ (by assumption))))).mono ?_);rintro e w2 ⟨rfl,hq2⟩;obtain ⟨hc2,hf2,hz2⟩:=hq2.facts))))
  exact bodyPost_ret (v := .string ((⟨#[107]⟩:ByteArray)++(⟨#[109]⟩:ByteArray)++(⟨(decD a.toNat).toArray⟩:ByteArray))) (by simp [results,Tryz.f182,go_sem]) rfl ⟨congrArg (fun x=>Ending.returned (.string x)) (ByteArray.ext (by rw [show wordT ⟨5,false,a,b⟩=[107]++[109]++decD a.toNat++[] from by rfl];simp)),by repeat (first|exact zr _|assumption|refine za ?_ _|refine zd ?_|refine zn ?_ _|refine zt ?_ (by assumption))⟩
 ·go_enter Tryz.func182,Tryz.ntmps182
  go_wp2_with (first
   | (go_at_call 157;((with_reducible refine (zg2 _).mono ?_);rintro e w1 ⟨rfl,hq1⟩;obtain ⟨hc1,hf1,hz1⟩:=hq1.facts))
   | (go_at_call 37;(first | ((with_reducible refine (zan a h0 (by omega) _ (HG.out.ext (by repeat (first|exact zr _|assumption|refine za ?_ _|refine zd ?_|refine zn ?_ _|refine zt ?_ (by assumption))))).mono ?_);rintro e w2 ⟨rfl,hq2⟩;obtain ⟨hc2,hf2,hz2⟩:=hq2.facts))))
  exact bodyPost_ret (v := .string ((⟨#[112]⟩:ByteArray)++(⟨#[109]⟩:ByteArray)++(⟨(decD a.toNat).toArray⟩:ByteArray))) (by simp [results,Tryz.f182,go_sem]) rfl ⟨congrArg (fun x=>Ending.returned (.string x)) (ByteArray.ext (by rw [show wordT ⟨5,true,a,b⟩=[112]++[109]++decD a.toNat++[] from by rfl];simp)),by repeat (first|exact zr _|assumption|refine za ?_ _|refine zd ?_|refine zn ?_ _|refine zt ?_ (by assumption))⟩
set_option maxHeartbeats 2000000 in
theorem znc (p:Bool) (a b:Int) (h0:0≤a) (h1:a≤200) (h2:0≤b) (h3:b≤6) (w:World) (hg:Glob w) :
  Calls Tryz.prog 182 #[.agg #[.int .u8 6,.bool p,.int .i64 a,.int .i64 b]] w fun e w'=>e = .returned (.string ⟨(wordT ⟨6,p,a,b⟩).toArray⟩)∧Ext w w':=by
 have HG:=Lib.hid hg
 clear hg
 have d1:=zaj a.toNat
 have d2:=zaj b.toNat
 cases p
 ·go_enter Tryz.func182,Tryz.ntmps182
  go_wp2_with (first
   | (go_at_call 157;((with_reducible refine (zgU _).mono ?_);rintro e w1 ⟨rfl,hq1⟩;obtain ⟨hc1,hf1,hz1⟩:=hq1.facts))
   | (go_at_call 37;(first | ((with_reducible refine (zan a h0 (by omega) _ (HG.out.ext (by repeat (first|exact zr _|assumption|refine za ?_ _|refine zd ?_|refine zn ?_ _|refine zt ?_ (by assumption))))).mono ?_);rintro e w2 ⟨rfl,hq2⟩;obtain ⟨hc2,hf2,hz2⟩:=hq2.facts;have hqb:=Ext.trans hq1 (Ext.trans ((Ext.refl w1).alloc (.cells #[.string ⟨#[120]⟩,.int .i64 1,.int .i64 6,.int .i64 1,.int .i64 6,.bool true,.int .i64 3,.int .i64 3] 216)) hq2);obtain ⟨hcb,hfb,hzb⟩:=hqb.facts) | ((with_reducible refine (zan b h2 (by omega) _ (HG.out.ext (by repeat (first|exact zr _|assumption|refine za ?_ _|refine zd ?_|refine zn ?_ _|refine zt ?_ (by assumption))))).mono ?_);rintro e w3 ⟨rfl,hq3⟩))))
  exact bodyPost_ret (v := .string ((⟨#[107]⟩:ByteArray)++(⟨#[120]⟩:ByteArray)++(⟨(decD a.toNat).toArray⟩:ByteArray)++((⟨#[47]⟩:ByteArray)++(⟨(decD b.toNat).toArray⟩:ByteArray)))) (by simp [results,Tryz.f182,go_sem]) rfl ⟨congrArg (fun x=>Ending.returned (.string x)) (ByteArray.ext (by rw [show wordT ⟨6,false,a,b⟩=[107]++[120]++decD a.toNat++(47::decD b.toNat) from by rfl];simp)),by repeat (first|exact zr _|assumption|refine za ?_ _|refine zd ?_|refine zn ?_ _|refine zt ?_ (by assumption))⟩
 ·go_enter Tryz.func182,Tryz.ntmps182
  go_wp2_with (first
   | (go_at_call 157;((with_reducible refine (zgU _).mono ?_);rintro e w1 ⟨rfl,hq1⟩;obtain ⟨hc1,hf1,hz1⟩:=hq1.facts))
   | (go_at_call 37;(first | ((with_reducible refine (zan a h0 (by omega) _ (HG.out.ext (by repeat (first|exact zr _|assumption|refine za ?_ _|refine zd ?_|refine zn ?_ _|refine zt ?_ (by assumption))))).mono ?_);rintro e w2 ⟨rfl,hq2⟩;obtain ⟨hc2,hf2,hz2⟩:=hq2.facts;have hqb:=Ext.trans hq1 (Ext.trans ((Ext.refl w1).alloc (.cells #[.string ⟨#[120]⟩,.int .i64 1,.int .i64 6,.int .i64 1,.int .i64 6,.bool true,.int .i64 3,.int .i64 3] 216)) hq2);obtain ⟨hcb,hfb,hzb⟩:=hqb.facts) | ((with_reducible refine (zan b h2 (by omega) _ (HG.out.ext (by repeat (first|exact zr _|assumption|refine za ?_ _|refine zd ?_|refine zn ?_ _|refine zt ?_ (by assumption))))).mono ?_);rintro e w3 ⟨rfl,hq3⟩))))
  exact bodyPost_ret (v := .string ((⟨#[112]⟩:ByteArray)++(⟨#[120]⟩:ByteArray)++(⟨(decD a.toNat).toArray⟩:ByteArray)++((⟨#[47]⟩:ByteArray)++(⟨(decD b.toNat).toArray⟩:ByteArray)))) (by simp [results,Tryz.f182,go_sem]) rfl ⟨congrArg (fun x=>Ending.returned (.string x)) (ByteArray.ext (by rw [show wordT ⟨6,true,a,b⟩=[112]++[120]++decD a.toNat++(47::decD b.toNat) from by rfl];simp)),by repeat (first|exact zr _|assumption|refine za ?_ _|refine zd ?_|refine zn ?_ _|refine zt ?_ (by assumption))⟩
set_option maxHeartbeats 2000000 in
theorem zmX (p:Bool) (a b:Int) (h0:0≤a) (h1:a≤200) (h2:0≤b) (h3:b≤6) (w:World) (hg:Glob w) :
  Calls Tryz.prog 182 #[.agg #[.int .u8 7,.bool p,.int .i64 a,.int .i64 b]] w fun e w'=>e = .returned (.string ⟨(wordT ⟨7,p,a,b⟩).toArray⟩)∧Ext w w':=by
 have HG:=Lib.hid hg
 clear hg
 have d1:=zaj a.toNat
 have d2:=zaj b.toNat
 cases p
 ·go_enter Tryz.func182,Tryz.ntmps182
  go_wp2_with (first
   | (go_at_call 157;((with_reducible refine (zgl _).mono ?_);rintro e w1 ⟨rfl,hq1⟩;obtain ⟨hc1,hf1,hz1⟩:=hq1.facts))
   | (go_at_call 37;(first | ((with_reducible refine (zan a h0 (by omega) _ (HG.out.ext (by repeat (first|exact zr _|assumption|refine za ?_ _|refine zd ?_|refine zn ?_ _|refine zt ?_ (by assumption))))).mono ?_);rintro e w2 ⟨rfl,hq2⟩;obtain ⟨hc2,hf2,hz2⟩:=hq2.facts;have hqb:=Ext.trans hq1 (Ext.trans ((Ext.refl w1).alloc (.cells #[.string ⟨#[121]⟩,.int .i64 1,.int .i64 6,.int .i64 1,.int .i64 6,.bool true,.int .i64 3,.int .i64 3] 216)) hq2);obtain ⟨hcb,hfb,hzb⟩:=hqb.facts) | ((with_reducible refine (zan b h2 (by omega) _ (HG.out.ext (by repeat (first|exact zr _|assumption|refine za ?_ _|refine zd ?_|refine zn ?_ _|refine zt ?_ (by assumption))))).mono ?_);rintro e w3 ⟨rfl,hq3⟩))))
  exact bodyPost_ret (v := .string ((⟨#[107]⟩:ByteArray)++(⟨#[121]⟩:ByteArray)++(⟨(decD a.toNat).toArray⟩:ByteArray)++((⟨#[47]⟩:ByteArray)++(⟨(decD b.toNat).toArray⟩:ByteArray)))) (by simp [results,Tryz.f182,go_sem]) rfl ⟨congrArg (fun x=>Ending.returned (.string x)) (ByteArray.ext (by rw [show wordT ⟨7,false,a,b⟩=[107]++[121]++decD a.toNat++(47::decD b.toNat) from by rfl];simp)),by repeat (first|exact zr _|assumption|refine za ?_ _|refine zd ?_|refine zn ?_ _|refine zt ?_ (by assumption))⟩
 ·go_enter Tryz.func182,Tryz.ntmps182
  go_wp2_with (first
   | (go_at_call 157;((with_reducible refine (zgl _).mono ?_);rintro e w1 ⟨rfl,hq1⟩;obtain ⟨hc1,hf1,hz1⟩:=hq1.facts))
   | (go_at_call 37;(first | ((with_reducible refine (zan a h0 (by omega) _ (HG.out.ext (by repeat (first|exact zr _|assumption|refine za ?_ _|refine zd ?_|refine zn ?_ _|refine zt ?_ (by assumption))))).mono ?_);rintro e w2 ⟨rfl,hq2⟩;obtain ⟨hc2,hf2,hz2⟩:=hq2.facts;have hqb:=Ext.trans hq1 (Ext.trans ((Ext.refl w1).alloc (.cells #[.string ⟨#[121]⟩,.int .i64 1,.int .i64 6,.int .i64 1,.int .i64 6,.bool true,.int .i64 3,.int .i64 3] 216)) hq2);obtain ⟨hcb,hfb,hzb⟩:=hqb.facts) | ((with_reducible refine (zan b h2 (by omega) _ (HG.out.ext (by repeat (first|exact zr _|assumption|refine za ?_ _|refine zd ?_|refine zn ?_ _|refine zt ?_ (by assumption))))).mono ?_);rintro e w3 ⟨rfl,hq3⟩))))
  exact bodyPost_ret (v := .string ((⟨#[112]⟩:ByteArray)++(⟨#[121]⟩:ByteArray)++(⟨(decD a.toNat).toArray⟩:ByteArray)++((⟨#[47]⟩:ByteArray)++(⟨(decD b.toNat).toArray⟩:ByteArray)))) (by simp [results,Tryz.f182,go_sem]) rfl ⟨congrArg (fun x=>Ending.returned (.string x)) (ByteArray.ext (by rw [show wordT ⟨7,true,a,b⟩=[112]++[121]++decD a.toNat++(47::decD b.toNat) from by rfl];simp)),by repeat (first|exact zr _|assumption|refine za ?_ _|refine zd ?_|refine zn ?_ _|refine zt ?_ (by assumption))⟩
set_option maxHeartbeats 2000000 in
theorem zmO (p:Bool) (a b:Int) (w:World) :
  Calls Tryz.prog 182 #[.agg #[.int .u8 8,.bool p,.int .i64 a,.int .i64 b]] w fun e w'=>e = .returned (.string ⟨(wordT ⟨8,p,a,b⟩).toArray⟩)∧Ext w w':=by
 cases p
 ·go_enter Tryz.func182,Tryz.ntmps182
  go_wp2_with (first
   | (go_at_call 157;((with_reducible refine (zgi _).mono ?_);rintro e w1 ⟨rfl,hq1⟩;obtain ⟨hc1,hf1,hz1⟩:=hq1.facts)))
  exact bodyPost_ret (v := .string ((⟨#[107]⟩:ByteArray)++(⟨#[115]⟩:ByteArray))) (by simp [results,Tryz.f182,go_sem]) rfl ⟨congrArg (fun x=>Ending.returned (.string x)) (ByteArray.ext (by rw [show wordT ⟨8,false,a,b⟩=[107]++[115]++[]++[] from by rfl];simp)),by repeat (first|exact zr _|assumption|refine za ?_ _|refine zd ?_|refine zn ?_ _|refine zt ?_ (by assumption))⟩
 ·go_enter Tryz.func182,Tryz.ntmps182
  go_wp2_with (first
   | (go_at_call 157;((with_reducible refine (zgi _).mono ?_);rintro e w1 ⟨rfl,hq1⟩;obtain ⟨hc1,hf1,hz1⟩:=hq1.facts)))
  exact bodyPost_ret (v := .string ((⟨#[112]⟩:ByteArray)++(⟨#[115]⟩:ByteArray))) (by simp [results,Tryz.f182,go_sem]) rfl ⟨congrArg (fun x=>Ending.returned (.string x)) (ByteArray.ext (by rw [show wordT ⟨8,true,a,b⟩=[112]++[115]++[]++[] from by rfl];simp)),by repeat (first|exact zr _|assumption|refine za ?_ _|refine zd ?_|refine zn ?_ _|refine zt ?_ (by assumption))⟩
set_option maxHeartbeats 2000000 in
theorem zmU (p:Bool) (a b:Int) (h0:0≤a) (h1:a≤200) (w:World) (hg:Glob w) :
  Calls Tryz.prog 182 #[.agg #[.int .u8 9,.bool p,.int .i64 a,.int .i64 b]] w fun e w'=>e = .returned (.string ⟨(wordT ⟨9,p,a,b⟩).toArray⟩)∧Ext w w':=by
 have HG:=Lib.hid hg
 clear hg
 have d1:=zaj a.toNat
 go_enter Tryz.func182,Tryz.ntmps182
 go_wp2_with (first
   | (go_at_call 37;(first | ((with_reducible refine (zan a h0 (by omega) _ (HG.out.ext (by repeat (first|exact zr _|assumption|refine za ?_ _|refine zd ?_|refine zn ?_ _|refine zt ?_ (by assumption))))).mono ?_);rintro e w2 ⟨rfl,hq2⟩;obtain ⟨hc2,hf2,hz2⟩:=hq2.facts))))
 go_ret
 exact ⟨congrArg (fun x=>Ending.returned (.string x)) (ByteArray.ext (by rw [show wordT ⟨9,p,a,b⟩=[111,110]++decD a.toNat from rfl];simp)),by repeat (first|exact zr _|assumption|refine za ?_ _|refine zd ?_|refine zn ?_ _|refine zt ?_ (by assumption))⟩
set_option maxHeartbeats 2000000 in
theorem zlO (p:Bool) (a b:Int) (h0:0≤a) (h1:a≤200) (w:World) (hg:Glob w) :
  Calls Tryz.prog 182 #[.agg #[.int .u8 10,.bool p,.int .i64 a,.int .i64 b]] w fun e w'=>e = .returned (.string ⟨(wordT ⟨10,p,a,b⟩).toArray⟩)∧Ext w w':=by
 have HG:=Lib.hid hg
 clear hg
 have d1:=zaj a.toNat
 cases p
 ·go_enter Tryz.func182,Tryz.ntmps182
  go_wp2_with (first
   | (go_at_call 157;((with_reducible refine (zei _).mono ?_);rintro e w1 ⟨rfl,hq1⟩;obtain ⟨hc1,hf1,hz1⟩:=hq1.facts))
   | (go_at_call 37;(first | ((with_reducible refine (zan a h0 (by omega) _ (HG.out.ext (by repeat (first|exact zr _|assumption|refine za ?_ _|refine zd ?_|refine zn ?_ _|refine zt ?_ (by assumption))))).mono ?_);rintro e w2 ⟨rfl,hq2⟩;obtain ⟨hc2,hf2,hz2⟩:=hq2.facts))))
  exact bodyPost_ret (v := .string ((⟨#[107]⟩:ByteArray)++(⟨#[111]⟩:ByteArray)++(⟨(decD a.toNat).toArray⟩:ByteArray))) (by simp [results,Tryz.f182,go_sem]) rfl ⟨congrArg (fun x=>Ending.returned (.string x)) (ByteArray.ext (by rw [show wordT ⟨10,false,a,b⟩=[107]++[111]++decD a.toNat++[] from by rfl];simp)),by repeat (first|exact zr _|assumption|refine za ?_ _|refine zd ?_|refine zn ?_ _|refine zt ?_ (by assumption))⟩
 ·go_enter Tryz.func182,Tryz.ntmps182
  go_wp2_with (first
   | (go_at_call 157;((with_reducible refine (zei _).mono ?_);rintro e w1 ⟨rfl,hq1⟩;obtain ⟨hc1,hf1,hz1⟩:=hq1.facts))
   | (go_at_call 37;(first | ((with_reducible refine (zan a h0 (by omega) _ (HG.out.ext (by repeat (first|exact zr _|assumption|refine za ?_ _|refine zd ?_|refine zn ?_ _|refine zt ?_ (by assumption))))).mono ?_);rintro e w2 ⟨rfl,hq2⟩;obtain ⟨hc2,hf2,hz2⟩:=hq2.facts))))
  exact bodyPost_ret (v := .string ((⟨#[112]⟩:ByteArray)++(⟨#[111]⟩:ByteArray)++(⟨(decD a.toNat).toArray⟩:ByteArray))) (by simp [results,Tryz.f182,go_sem]) rfl ⟨congrArg (fun x=>Ending.returned (.string x)) (ByteArray.ext (by rw [show wordT ⟨10,true,a,b⟩=[112]++[111]++decD a.toNat++[] from by rfl];simp)),by repeat (first|exact zr _|assumption|refine za ?_ _|refine zd ?_|refine zn ?_ _|refine zt ?_ (by assumption))⟩
theorem zkQ (s:St) (h:okSt s=true) (w:World) (hg:Glob w) :
  Calls Tryz.prog 182 #[.agg #[.int .u8 s.k,.bool s.p,.int .i64 s.a,.int .i64 s.b]] w fun e w'=>e = .returned (.string ⟨(wordT s).toArray⟩)∧Ext w w':=by
 obtain ⟨h0,h1,h2,h3⟩:=znd h
 obtain ⟨k,p,a,b⟩:=s
 have hk:=zed h
 simp only at h0 h1 h2 h3 hk ⊢
 rcases zaB hk with e | e | e | e | e | e | e | e | e | e <;> subst e
 ·exact zno p a b w
 ·exact zm7 p a b w
 ·exact zmS p a b h0 h1 w hg
 ·exact zm3 p a b h0 h1 w hg
 ·exact znb p a b h0 h1 w hg
 ·exact znc p a b h0 h1 h2 h3 w hg
 ·exact zmX p a b h0 h1 h2 h3 w hg
 ·exact zmO p a b w
 ·exact zmU p a b h0 h1 w hg
 ·exact zlO p a b h0 h1 w hg
end Go.Proofs.YtkneghkbgingdaaGreatDoor
