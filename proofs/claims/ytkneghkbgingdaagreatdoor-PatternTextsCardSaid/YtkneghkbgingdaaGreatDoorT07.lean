/- The library's words on strings and numbers, read in the words of the stitches' texts. -/
import Derived.Lib.Split
import Derived.Lib.Join
import Derived.Lib.ItoaNum
import Derived.Lib.Atoi
import Derived.Lib.AtoiAll
import Derived.Test.YtkneghkbgingdaaGreatDoorT06
import Derived.Lib.AtoiBound
import Derived.Lib.AppendIntMem
import Derived.Lib.AtoiErrMem
set_option maxHeartbeats 16000000
namespace Go.Proofs.YtkneghkbgingdaaGreatDoor
set_option maxRecDepth 100000
open Go
theorem zhu {n:Nat} (h:n<10):dg n=UInt8.ofNat (48+n):=by rw [dg,Nat.mod_eq_of_lt h]
theorem zht:∀(f n:Nat),n<10 ^ (f+1)->decF (f+1) n=Lib.decDigits n:=by
 intro f
 induction f with
 | zero =>
  intro n h
  have h:n<10:=by simpa using h
  rw [Lib.decDigits,dif_pos h,decF,if_pos h,zhu h]
 | succ f ih =>
  intro n h
  rw [Lib.decDigits,decF]
  by_cases hn:n<10
  ·rw [dif_pos hn,if_pos hn,zhu hn]
  ·rw [dif_neg hn,if_neg hn,ih (n / 10) (by rw [Nat.pow_succ] at h;omega),zhu (Nat.mod_lt _ (by omega))]
theorem zlO:∀(f n:Nat),(decF f n).length<=f:=by
 intro f
 induction f with
 | zero=>intro n;simp [decF]
 | succ f ih =>
  intro n
  rw [decF]
  split
  ·simp
  ·have:=ih (n / 10)
   simp only [Zb,Zk,List.length_nil]
   omega
theorem zac (n:Nat):(decD n).length<=20:=zlO 20 n
theorem znP {n:Nat} (h:n<10 ^ 20):Lib.decDigits n=decD n:=(zht 19 n h).symm
theorem zl7 {n:Int} (h0:0<=n) (h1:n<=1000000000000):Lib.itoa n=decD n.toNat:=by
 rw [Lib.itoa,if_neg (by omega),znP (by omega)]
theorem zbA (c x:UInt8) (l:List UInt8):Lib.index (x::l) [c]=if c=x then 0 else if Lib.index l [c] == -1 then -1 else Lib.index l [c]+1:=by
 rw [Lib.index]
 by_cases h:c=x <;> simp [h,List.isPrefixOf]
theorem zez (c:UInt8):Lib.index [] [c] = -1:=rfl
theorem zpR (c:UInt8):∀(m:Nat) (l:List UInt8),l.length<=m->Lib.splitK [c] 0 (Lib.count l [c]) l=spl c l:=by
 intro m
 induction m with
 | zero =>
  intro l h
  obtain rfl:l=[]:=ZT (by omega)
  rw [Lib.count_miss (zez c)]
  rfl
 | succ m ih =>
  intro l h
  rcases hi:l with _ | ⟨x,t⟩
  ·rw [Lib.count_miss (zez c)];rfl
  ·subst hi
   by_cases hx:x=c
   ·subst hx
    have h0:Lib.index (x::t) [x]=(0:Nat):=by rw [zbA];simp
    rw [Lib.count_hit (by simp) h0,Nat.add_comm 1,Lib.splitK,h0]
    have h2:=ih t (by simpa using h)
    have h3:∀a:List UInt8,(List.drop ([x]:List UInt8).length (x::a))=a:=fun _=>rfl
    simp [h2,spl]
   ·have aa:¬c=x:=fun e=>hx e.symm
    rw [spl,if_neg hx]
    rcases Lib.index_spec t [c] with ⟨hm,_⟩ | ⟨i,hm,_⟩
    ·have h1:Lib.index (x::t) [c] = -1:=by rw [zbA,if_neg aa,hm];rfl
     have ht:t.length<=m:=by simpa using h
     have h2:=ih t ht
     rw [Lib.count_miss hm] at h2
     rw [Lib.count_miss h1,<-h2]
     rfl
    ·have h1:Lib.index (x::t) [c]=((i+1:Nat):Int):=by
      rw [zbA,if_neg aa,hm,if_neg (by first | (simp;done) | (simp;omega))];rfl
     have ht:t.length<=m:=by simpa using h
     have h2:=ih t ht
     rw [Lib.count_hit (by simp) hm,Nat.add_comm 1,Lib.splitK,hm,if_neg (by first | (simp;done) | (simp;omega))] at h2
     rw [Lib.count_hit (by simp) h1,Nat.add_comm 1,Lib.splitK,h1,if_neg (by first | (simp;done) | (simp;omega)),<-h2]
     simp only [Int.toNat_natCast,Nat.add_zero,List.take_succ_cons,Zk,List.length_nil,List.drop_succ_cons,Nat.zero_add]
theorem zf7 (c x:UInt8) (t:List UInt8):(spl c (x::t)).length=if x=c then (spl c t).length+1 else (spl c t).length:=by
 rw [spl]
 split
 ·simp
 ·have:=zee c t
  rcases h:spl c t with _ | ⟨y,r⟩
  ·exact absurd h this
  ·simp
theorem zdM (c:UInt8):∀(m:Nat) (l:List UInt8),l.length<=m->(spl c l).length=Lib.count l [c]+1:=by
 intro m
 induction m with
 | zero =>
  intro l h
  obtain rfl:l=[]:=ZT (by omega)
  rw [Lib.count_miss (zez c)]
  rfl
 | succ m ih =>
  intro l h
  rcases hi:l with _ | ⟨x,t⟩
  ·rw [Lib.count_miss (zez c)];rfl
  ·subst hi
   have h2:=ih t (by simpa using h)
   rw [zf7]
   by_cases hx:x=c
   ·subst hx
    have h0:Lib.index (x::t) [x]=(0:Nat):=by rw [zbA];simp
    have h3:=Lib.count_hit (by simp) h0
    rw [if_pos rfl,h2,h3]
    simp
    omega
   ·have aa:¬c=x:=fun e=>hx e.symm
    rw [if_neg hx,h2]
    rcases Lib.index_spec t [c] with ⟨hm,_⟩ | ⟨i,hm,_⟩
    ·have h1:Lib.index (x::t) [c] = -1:=by rw [zbA,if_neg aa,hm];rfl
     rw [Lib.count_miss hm,Lib.count_miss h1]
    ·have h1:Lib.index (x::t) [c]=((i+1:Nat):Int):=by
      rw [zbA,if_neg aa,hm,if_neg (by first | (simp;done) | (simp;omega))];rfl
     rw [Lib.count_hit (by simp) hm,Lib.count_hit (by simp) h1]
     simp
theorem zf9 (c:UInt8) (s:ByteArray):(Lib.splitB ⟨#[c]⟩ 0 (Lib.countB s ⟨#[c]⟩) s).map (·.data.toList)=spl c s.data.toList:=by
 rw [Lib.splitB_data]
 exact zpR c _ _ (Zg _)
theorem zl9 (c:UInt8):∀(ws:List (List UInt8)),Lib.join ws [c]=joinB c ws:=by
 intro ws
 induction ws with
 | nil=>rfl
 | cons x ws ih =>
  cases ws with
  | nil=>simp [Lib.join_one,joinB]
  | cons y ws =>
   rw [Lib.join_cons]
   rw [Lib.join_cons] at ih
   rw [joinB,<-ih]
   simp [Lib.joinTail]
theorem zds {c:UInt8} (h:isDg c=true):48<=c.toNat/\c.toNat<=57:=by
 simp only [isDg,Zt,ZG,UInt8.le_iff_toNat_le] at h
 exact h
theorem zgE:∀(l:List UInt8) (acc:Nat),l.all isDg=true->Lib.decFrom acc l=some (l.foldl (fun v c=>10*v+(c.toNat-48)) acc):=by
 intro l
 induction l with
 | nil=>intro acc _;rfl
 | cons c r ih =>
  intro acc h
  have h1:isDg c=true/\r.all isDg=true:=by simpa using h
  rw [Lib.decFrom,Lib.digitVal,if_pos (zds h1.1)]
  simp only
  rw [ih _ h1.2,List.foldl_cons,Nat.mul_comm acc 10]
theorem zdl {l:List UInt8} (h:l.all isDg=true) (hl:l≠[]):Lib.atoi l=some (valD l:Int):=by
 rcases l with _ | ⟨c,r⟩
 ·exact absurd rfl hl
 ·have h1:isDg c=true/\r.all isDg=true:=by simpa using h
  have h2:=zds h1.1
  have h3:(c==45)=false:=by
   rw [Ze]
   rintro rfl
   simp at h2
  have h4:(c==43)=false:=by
   rw [Ze]
   rintro rfl
   simp at h2
  rw [Lib.atoi,h3,h4]
  have h5:Lib.decNat (c::r)=some (valD (c::r)):=by
   rw [Lib.decNat,List.isEmpty_cons,if_neg (by simp),zgE _ 0 h]
   rfl
  rw [h5]
  rfl
theorem zl3:∀(k:Nat) (l:List UInt8),headD k l<=k/\headD k l<=l.length/\(l.take (headD k l)).all isDg=true:=by
 intro k
 induction k with
 | zero=>intro l;simp [headD]
 | succ k ih =>
  intro l
  cases l with
  | nil=>simp [headD]
  | cons c r =>
   obtain ⟨h1,h2,h3⟩:=ih r
   rw [headD]
   split
   ·rename_i hc
    refine ⟨by omega,by simp only [Zk];omega,?_⟩
    rw [List.take_succ_cons,List.all_cons,hc,h3];rfl
   ·simp
theorem ziw {k:Nat}:∀ {l:List UInt8} {n:Nat},n<=headD k l->(n<headD k l↔n<k/\n<l.length/\isDg (l.getD n 0)=true):=by
 induction k with
 | zero=>intro l n h;simp [headD] at h ⊢
 | succ k ih =>
  intro l n h
  cases l with
  | nil=>simp [headD] at h ⊢
  | cons c r =>
   rw [headD] at h ⊢
   by_cases hc:isDg c=true
   ·rw [if_pos hc] at h ⊢
    cases n with
    | zero=>simp [hc]
    | succ n =>
     have:=ih (l:=r) (n:=n) (by omega)
     simp only [List.getD_cons_succ,Zk,Nat.add_lt_add_iff_right]
     exact this
   ·rw [if_neg hc] at h ⊢
    obtain rfl:n=0:=by omega
    simp [hc]
theorem zls:∀(l:List UInt8) (acc:Nat),l.all isDg=true->l.foldl (fun v c=>10*v+(c.toNat-48)) acc<(acc+1)*10 ^ l.length:=by
 intro l
 induction l with
 | nil=>intro acc _;simp
 | cons c r ih =>
  intro acc h
  have h1:isDg c=true/\r.all isDg=true:=by simpa using h
  have h2:=zds h1.1
  have h3:=ih (10*acc+(c.toNat-48)) h1.2
  rw [List.foldl_cons,Zk,Nat.pow_succ]
  refine Zo h3 ?_
  rw [Nat.mul_comm (10 ^ r.length) 10,<-Nat.mul_assoc]
  exact Nat.mul_le_mul_right _ (by omega)
theorem zcQ {l:List UInt8} (h:l.all isDg=true) (hl:l.length<=4):valD l<10000:=by
 have h1:=zls l 0 h
 have h2:10 ^ l.length<=10 ^ 4:=Nat.pow_le_pow_right (by omega) hl
 unfold valD
 omega
end Go.Proofs.YtkneghkbgingdaaGreatDoor
/- The library's functions that the stitches' texts call,in the words of this claim. -/
namespace Go.Proofs.YtkneghkbgingdaaGreatDoor
set_option maxRecDepth 100000
open Go.RowKit
theorem zaG (l:List UInt8):(⟨l.toArray⟩:ByteArray).data.toList=l:=by simp
theorem zaK (l:List UInt8):(⟨l.toArray⟩:ByteArray).size=l.length:=by simp [ByteArray.size]
theorem zaa (a b:List UInt8):(⟨a.toArray⟩++⟨b.toArray⟩:ByteArray)=⟨(a++b).toArray⟩:=by
 apply ByteArray.ext
 simp
theorem zar (l:List UInt8) (k:Nat):(⟨l.toArray⟩:ByteArray).extract 0 k=⟨(l.take k).toArray⟩:=by
 apply ByteArray.ext
 apply Array.toList_inj.1
 rw [Lib.extract_from_zero]
theorem zai (l:List UInt8) (k n:Nat) (h:l.length<=n):(⟨l.toArray⟩:ByteArray).extract k n=⟨(l.drop k).toArray⟩:=by
 apply ByteArray.ext
 apply Array.toList_inj.1
 rw [Lib.extract_data]
 exact ZE (by simp;omega)
theorem zam (l:List UInt8) (k:Nat) (h:k<(⟨l.toArray⟩:ByteArray).size):(⟨l.toArray⟩:ByteArray)[k]=l.getD k 0:=by
 have h2:k<l.length:=by simpa [ByteArray.size] using h
 rw [Zc,Zd h2]
 rfl
theorem zah (n:Int) (h0:0<=n) (h1:n<=1000000000000) (w:World) (hg:Glob w) :
  Calls Tryz.prog 37 #[.int .i64 n] w fun e w'=>e = .returned (.string ⟨(decD n.toNat).toArray⟩)/\Ext w w':=by
 refine (Tryz.strconv_Itoa n (by omega) (by omega) w hg.tab).mono ?_
 rintro e w' ⟨rfl,k,os,rfl⟩
 exact ⟨by rw [zl7 h0 h1],Lib.below_grow _ _ (Zg _) _ _⟩
theorem zdm (l:List UInt8) (hl:l.length<=4) (h:l.all isDg=true) (h0:l≠[]) (w:World) :
  Calls Tryz.prog 114 #[.string ⟨l.toArray⟩] w fun e w'=>e = .returned (.tuple #[.int .i64 (valD l:Int),.nilIface])/\Ext w w':=by
 refine (Tryz.strconv_Atoi ⟨l.toArray⟩ (valD l:Int) (by rw [zaK];omega) (by rw [zaG];exact zdl h h0) w).mono ?_
 rintro e w' ⟨rfl,t,rfl⟩
 exact ⟨rfl,Lib.bytesWorld_below _ _ _⟩
theorem zeo (w:World) (hg:Glob w) :
  Calls Tryz.prog 114 #[.string ⟨#[]⟩] w fun e w'=>(∃te p,e = .returned (.tuple #[.int .i64 0,.iface te (.pointer (some p))]))/\Ext w w':=by
 obtain ⟨tp,p,hv⟩:=hg.syn
 refine (Tryz.strconv_Atoi_err_var ⟨#[]⟩ (by simp [ByteArray.size]) rfl tp p w hv).mono ?_
 rintro e w' ⟨N,rfl,_,_,hb⟩
 exact ⟨⟨_,_,rfl⟩,hb⟩
theorem zbl (w:World) (hg:Glob w) :
  Calls Tryz.prog 114 #[.string ByteArray.empty] w fun e w'=>(∃te p,e = .returned (.tuple #[.int .i64 0,.iface te (.pointer (some p))]))/\Ext w w':=zeo w hg
def shStr:Shp (List UInt8) where
 size:=1
 cells x:=[.string ⟨x.toArray⟩]
 pos:=by omega
 len _:=rfl
 one x u h:=by
  simp at h
  subst h
  rfl
theorem zbC:(Tryz.prog.info? 9).map (fun i=>(i.zero,i.size,i.bytes))=some (some (.string ⟨#[]⟩),1,16):=by kernel_rfl
theorem zZ3 {p:Prop} (h:p:=by
 have hi:i=0:=by
  rcases i with _ | i
  ·rfl
  ·simp [shStr] at hu
 subst hi
 have hu2:u = .string ⟨x.toArray⟩:=by simp [shStr] at hu;exact hu.symm
 subst hu2
 have h1:(w.alloc (.cells ((Lib.splitB ⟨#[c]⟩ 0 (Lib.countB ⟨l.toArray⟩ ⟨#[c]⟩) ⟨l.toArray⟩).map Value.string).toArray 9)).heap[w.heap.size]?=some (.cells ((Lib.splitB ⟨#[c]⟩ 0 (Lib.countB ⟨l.toArray⟩ ⟨#[c]⟩) ⟨l.toArray⟩).map Value.string).toArray 9):=heap_alloc_new w _
 rw [cell_of_row _ w.heap.size _ _ 9 (0,0) h1]
 rw [<-hs,List.getElem?_map] at hx
 obtain ⟨y,hy,rfl⟩:=ZH.1 hx
 simp [hy,shStr]):p:=h
theorem zf8 (l:List UInt8) (c:UInt8) (hl:l.length<=100000) (w:World) (hg:Glob w) :
  Calls Tryz.prog 50 #[.string ⟨l.toArray⟩,.string ⟨#[c]⟩] w fun e w'=>∃g n,e = .returned (.slice (some ⟨g,0,none⟩) n n)/\Ext w w'/\Vec shStr w' (some ⟨g,0,none⟩) n (spl c l):=by
 obtain ⟨m,hm⟩:=hg.max
 refine (Tryz.strings_Split ⟨l.toArray⟩ ⟨#[c]⟩ m w (by rw [zaK];omega) hm (by simp [ByteArray.size])).mono ?_
 rintro e w' ⟨rfl,rfl⟩
 have hs:=zf9 c ⟨l.toArray⟩
 rw [zaG] at hs
 have aa:(spl c l).length=Lib.countB ⟨l.toArray⟩ ⟨#[c]⟩+1:=by
  rw [zdM c _ l (Zg _),Lib.countB,zaG]
 refine ⟨w.heap.size,_,rfl,(Zf _).alloc _,aa,fun _=>⟨w.heap.size,0,rfl,by simp,fun k x hx i u hu=>?_⟩⟩
 exact zZ3
theorem zhF:∀(ws:List (List UInt8)),ws.flatMap shStr.cells=ws.map (fun l=>Value.string ⟨l.toArray⟩):=by
 intro ws
 induction ws with
 | nil=>rfl
 | cons x ws ih=>rw [List.flatMap_cons,ih];rfl
theorem zl8 (B n c:Nat) (A:Option Addr) (ws:List (List UInt8)) (d:UInt8) (e:TypeId) (w:World) (hv:OwnV shStr w B e (.slice A n c) n ws) (hl:(joinB d ws).length<=100000000) (hws:n<=100000000) :
  Calls Tryz.prog 183 #[.slice A n c,.string ⟨#[d]⟩] w fun e w'=>e = .returned (.string ⟨(joinB d ws).toArray⟩)/\Ext w w':=by
 have hn:ws.length=n:=OwnV.len hv
 rcases hv.2 with ⟨h0,h1⟩ | ⟨g,cap,cur,h0,hB,hg,hnc,hcm,hsz,aa⟩
 ·cases h0
  obtain rfl:ws=[]:=ZT hn
  refine (Tryz.strings_Join_none none 0 ⟨#[d]⟩ w).mono ?_
  rintro e w' ⟨rfl,rfl⟩
  exact ⟨rfl,Zf _⟩
 ·cases h0
  have hx:(ws.map (fun l=>(⟨l.toArray⟩:ByteArray))).map (·.data.toList)=ws:=by
   rw [List.map_map]
   conv=>rhs;rw [<-List.map_id ws]
   apply List.map_congr_left
   intro l _
   simp
  have hj:Lib.join ((ws.map (fun l=>(⟨l.toArray⟩:ByteArray))).map (·.data.toList)) (⟨#[d]⟩:ByteArray).data.toList=joinB d ws:=by
   rw [hx]
   exact zl9 d ws
  have h9:=Tryz.strings_Join g 0 c (ws.map (fun l=>(⟨l.toArray⟩:ByteArray))) ⟨#[d]⟩ w (fun j x hjx=>?_) (Zm.1 hg).1 (by rw [List.length_map];omega) (by rw [List.length_map];omega) (by rw [hj];omega)
  ·rw [List.length_map,hn] at h9
   refine h9.mono ?_
   rintro e w' ⟨rfl,hb⟩
   exact ⟨by rw [hj],hb⟩
  ·rw [List.getElem?_map] at hjx
   obtain ⟨l,ab,rfl⟩:=ZH.1 hjx
   rw [cell_of_row _ g _ _ e (0,0) hg]
   have h8:(ws.flatMap shStr.cells)[j]?=some (.string ⟨l.toArray⟩):=by
    rw [zhF,List.getElem?_map,ab]
    rfl
   rw [<-aa,List.getElem?_take] at h8
   split at h8
   ·rw [Nat.zero_add]
    simpa using h8
   ·cases h8
end Go.Proofs.YtkneghkbgingdaaGreatDoor
/- The text of a stitch. -/
namespace Go.Proofs.YtkneghkbgingdaaGreatDoor
set_option maxRecDepth 100000
open Go.RowKit
theorem zni (w:World):Calls Tryz.prog 157 #[.int .u8 1] w fun e w'=>e = .returned (.tuple #[.agg #[.string ⟨#[]⟩,.int .i64 0,.int .i64 0,.int .i64 0,.int .i64 0,.bool true,.int .i64 1,.int .i64 1],.bool true])/\Ext w w':=zat 1 (by omega) (by omega) w
theorem zjQ (w:World):Calls Tryz.prog 157 #[.int .u8 3] w fun e w'=>e = .returned (.tuple #[.agg #[.string ⟨#[102]⟩,.int .i64 2,.int .i64 4,.int .i64 0,.int .i64 0,.bool true,.int .i64 2,.int .i64 1],.bool true])/\Ext w w':=zat 3 (by omega) (by omega) w
theorem zjR (w:World):Calls Tryz.prog 157 #[.int .u8 4] w fun e w'=>e = .returned (.tuple #[.agg #[.string ⟨#[108]⟩,.int .i64 2,.int .i64 4,.int .i64 0,.int .i64 0,.bool true,.int .i64 2,.int .i64 1],.bool true])/\Ext w w':=zat 4 (by omega) (by omega) w
theorem zjS (w:World):Calls Tryz.prog 157 #[.int .u8 5] w fun e w'=>e = .returned (.tuple #[.agg #[.string ⟨#[109]⟩,.int .i64 2,.int .i64 4,.int .i64 0,.int .i64 0,.bool true,.int .i64 1,.int .i64 2],.bool true])/\Ext w w':=zat 5 (by omega) (by omega) w
theorem zjT (w:World):Calls Tryz.prog 157 #[.int .u8 6] w fun e w'=>e = .returned (.tuple #[.agg #[.string ⟨#[120]⟩,.int .i64 1,.int .i64 6,.int .i64 1,.int .i64 6,.bool true,.int .i64 3,.int .i64 3],.bool true])/\Ext w w':=zat 6 (by omega) (by omega) w
theorem zjU (w:World):Calls Tryz.prog 157 #[.int .u8 7] w fun e w'=>e = .returned (.tuple #[.agg #[.string ⟨#[121]⟩,.int .i64 1,.int .i64 6,.int .i64 1,.int .i64 6,.bool true,.int .i64 3,.int .i64 3],.bool true])/\Ext w w':=zat 7 (by omega) (by omega) w
theorem zjV (w:World):Calls Tryz.prog 157 #[.int .u8 8] w fun e w'=>e = .returned (.tuple #[.agg #[.string ⟨#[115]⟩,.int .i64 0,.int .i64 0,.int .i64 0,.int .i64 0,.bool true,.int .i64 1,.int .i64 1],.bool true])/\Ext w w':=zat 8 (by omega) (by omega) w
theorem zgD (w:World):Calls Tryz.prog 157 #[.int .u8 10] w fun e w'=>e = .returned (.tuple #[.agg #[.string ⟨#[111]⟩,.int .i64 1,.int .i64 200,.int .i64 0,.int .i64 0,.bool true,.int .i64 2,.int .i64 0],.bool true])/\Ext w w':=zat 10 (by omega) (by omega) w
theorem zo4 {s:St} (h:okSt s=true):0<=s.a/\s.a<=200/\0<=s.b/\s.b<=6:=by
 obtain ⟨hk,ha,hb,_⟩:=zml h
 have ha:=zbe ha
 have hb:=zbe hb
 rcases zax hk with e | e | e | e | e | e | e | e | e | e <;> rw [e] at ha hb <;> simp [fa0,fa1,fb0,fb1] at ha hb <;> omega
theorem zpi (p:Bool) (a b:Int) (w:World) :
  Calls Tryz.prog 182 #[.agg #[.int .u8 1,.bool p,.int .i64 a,.int .i64 b]] w fun e w'=>e = .returned (.string ⟨(wordT ⟨1,p,a,b⟩).toArray⟩)/\Ext w w':=by
 cases p
 ·go_enter Tryz.func182,Tryz.ntmps182
  go_wp2_with (first
   | (go_at_call 157;((with_reducible refine (zni _).mono ?_);rintro e w1 ⟨rfl,hq1⟩;obtain ⟨aa,ab,hz1⟩:=hq1.facts)))
  exact bodyPost_ret (v := .string ((⟨#[107]⟩:ByteArray)++(⟨#[]⟩:ByteArray))) (by simp [results,Tryz.f182,go_sem]) rfl ⟨congrArg (fun x=>Ending.returned (.string x)) (ByteArray.ext (by rw [show wordT ⟨1,false,a,b⟩=[107]++[]++[]++[] from by rfl];simp)),zx⟩
 ·go_enter Tryz.func182,Tryz.ntmps182
  go_wp2_with (first
   | (go_at_call 157;((with_reducible refine (zni _).mono ?_);rintro e w1 ⟨rfl,hq1⟩;obtain ⟨aa,ab,hz1⟩:=hq1.facts)))
  exact bodyPost_ret (v := .string ((⟨#[112]⟩:ByteArray)++(⟨#[]⟩:ByteArray))) (by simp [results,Tryz.f182,go_sem]) rfl ⟨congrArg (fun x=>Ending.returned (.string x)) (ByteArray.ext (by rw [show wordT ⟨1,true,a,b⟩=[112]++[]++[]++[] from by rfl];simp)),zx⟩
theorem zpj (p:Bool) (a b:Int) (w:World) :
  Calls Tryz.prog 182 #[.agg #[.int .u8 2,.bool p,.int .i64 a,.int .i64 b]] w fun e w'=>e = .returned (.string ⟨(wordT ⟨2,p,a,b⟩).toArray⟩)/\Ext w w':=by
 go_enter Tryz.func182,Tryz.ntmps182
 go_wp2
 go_ret
 exact ⟨rfl,zx⟩
theorem zpk (p:Bool) (a b:Int) (h0:0<=a) (h1:a<=200) (w:World) (hg:Glob w) :
  Calls Tryz.prog 182 #[.agg #[.int .u8 3,.bool p,.int .i64 a,.int .i64 b]] w fun e w'=>e = .returned (.string ⟨(wordT ⟨3,p,a,b⟩).toArray⟩)/\Ext w w':=by
 have HG:=Za hg
 clear hg
 have d1:=zac a.toNat
 cases p
 ·go_enter Tryz.func182,Tryz.ntmps182
  go_wp2_with (first
   | (go_at_call 157;((with_reducible refine (zjQ _).mono ?_);rintro e w1 ⟨rfl,hq1⟩;obtain ⟨aa,ac,hz1⟩:=hq1.facts))
   | (go_at_call 37;(first | ((with_reducible refine (zah a h0 (by omega) _ (HG.out.ext zx)).mono ?_);rintro e w2 ⟨rfl,hq2⟩;obtain ⟨ab,ad,ae⟩:=hq2.facts))))
  exact bodyPost_ret (v := .string ((⟨#[107]⟩:ByteArray)++(⟨#[102]⟩:ByteArray)++(⟨(decD a.toNat).toArray⟩:ByteArray))) (by simp [results,Tryz.f182,go_sem]) rfl ⟨congrArg (fun x=>Ending.returned (.string x)) (ByteArray.ext (by rw [show wordT ⟨3,false,a,b⟩=[107]++[102]++decD a.toNat++[] from by rfl];simp)),zx⟩
 ·go_enter Tryz.func182,Tryz.ntmps182
  go_wp2_with (first
   | (go_at_call 157;((with_reducible refine (zjQ _).mono ?_);rintro e w1 ⟨rfl,hq1⟩;obtain ⟨aa,ac,hz1⟩:=hq1.facts))
   | (go_at_call 37;(first | ((with_reducible refine (zah a h0 (by omega) _ (HG.out.ext zx)).mono ?_);rintro e w2 ⟨rfl,hq2⟩;obtain ⟨ab,ad,ae⟩:=hq2.facts))))
  exact bodyPost_ret (v := .string ((⟨#[112]⟩:ByteArray)++(⟨#[102]⟩:ByteArray)++(⟨(decD a.toNat).toArray⟩:ByteArray))) (by simp [results,Tryz.f182,go_sem]) rfl ⟨congrArg (fun x=>Ending.returned (.string x)) (ByteArray.ext (by rw [show wordT ⟨3,true,a,b⟩=[112]++[102]++decD a.toNat++[] from by rfl];simp)),zx⟩
theorem zpl (p:Bool) (a b:Int) (h0:0<=a) (h1:a<=200) (w:World) (hg:Glob w) :
  Calls Tryz.prog 182 #[.agg #[.int .u8 4,.bool p,.int .i64 a,.int .i64 b]] w fun e w'=>e = .returned (.string ⟨(wordT ⟨4,p,a,b⟩).toArray⟩)/\Ext w w':=by
 have HG:=Za hg
 clear hg
 have d1:=zac a.toNat
 cases p
 ·go_enter Tryz.func182,Tryz.ntmps182
  go_wp2_with (first
   | (go_at_call 157;((with_reducible refine (zjR _).mono ?_);rintro e w1 ⟨rfl,hq1⟩;obtain ⟨aa,ac,hz1⟩:=hq1.facts))
   | (go_at_call 37;(first | ((with_reducible refine (zah a h0 (by omega) _ (HG.out.ext zx)).mono ?_);rintro e w2 ⟨rfl,hq2⟩;obtain ⟨ab,ad,ae⟩:=hq2.facts))))
  exact bodyPost_ret (v := .string ((⟨#[107]⟩:ByteArray)++(⟨#[108]⟩:ByteArray)++(⟨(decD a.toNat).toArray⟩:ByteArray))) (by simp [results,Tryz.f182,go_sem]) rfl ⟨congrArg (fun x=>Ending.returned (.string x)) (ByteArray.ext (by rw [show wordT ⟨4,false,a,b⟩=[107]++[108]++decD a.toNat++[] from by rfl];simp)),zx⟩
 ·go_enter Tryz.func182,Tryz.ntmps182
  go_wp2_with (first
   | (go_at_call 157;((with_reducible refine (zjR _).mono ?_);rintro e w1 ⟨rfl,hq1⟩;obtain ⟨aa,ac,hz1⟩:=hq1.facts))
   | (go_at_call 37;(first | ((with_reducible refine (zah a h0 (by omega) _ (HG.out.ext zx)).mono ?_);rintro e w2 ⟨rfl,hq2⟩;obtain ⟨ab,ad,ae⟩:=hq2.facts))))
  exact bodyPost_ret (v := .string ((⟨#[112]⟩:ByteArray)++(⟨#[108]⟩:ByteArray)++(⟨(decD a.toNat).toArray⟩:ByteArray))) (by simp [results,Tryz.f182,go_sem]) rfl ⟨congrArg (fun x=>Ending.returned (.string x)) (ByteArray.ext (by rw [show wordT ⟨4,true,a,b⟩=[112]++[108]++decD a.toNat++[] from by rfl];simp)),zx⟩
theorem zpm (p:Bool) (a b:Int) (h0:0<=a) (h1:a<=200) (w:World) (hg:Glob w) :
  Calls Tryz.prog 182 #[.agg #[.int .u8 5,.bool p,.int .i64 a,.int .i64 b]] w fun e w'=>e = .returned (.string ⟨(wordT ⟨5,p,a,b⟩).toArray⟩)/\Ext w w':=by
 have HG:=Za hg
 clear hg
 have d1:=zac a.toNat
 cases p
 ·go_enter Tryz.func182,Tryz.ntmps182
  go_wp2_with (first
   | (go_at_call 157;((with_reducible refine (zjS _).mono ?_);rintro e w1 ⟨rfl,hq1⟩;obtain ⟨aa,ac,hz1⟩:=hq1.facts))
   | (go_at_call 37;(first | ((with_reducible refine (zah a h0 (by omega) _ (HG.out.ext zx)).mono ?_);rintro e w2 ⟨rfl,hq2⟩;obtain ⟨ab,ad,ae⟩:=hq2.facts))))
  exact bodyPost_ret (v := .string ((⟨#[107]⟩:ByteArray)++(⟨#[109]⟩:ByteArray)++(⟨(decD a.toNat).toArray⟩:ByteArray))) (by simp [results,Tryz.f182,go_sem]) rfl ⟨congrArg (fun x=>Ending.returned (.string x)) (ByteArray.ext (by rw [show wordT ⟨5,false,a,b⟩=[107]++[109]++decD a.toNat++[] from by rfl];simp)),zx⟩
 ·go_enter Tryz.func182,Tryz.ntmps182
  go_wp2_with (first
   | (go_at_call 157;((with_reducible refine (zjS _).mono ?_);rintro e w1 ⟨rfl,hq1⟩;obtain ⟨aa,ac,hz1⟩:=hq1.facts))
   | (go_at_call 37;(first | ((with_reducible refine (zah a h0 (by omega) _ (HG.out.ext zx)).mono ?_);rintro e w2 ⟨rfl,hq2⟩;obtain ⟨ab,ad,ae⟩:=hq2.facts))))
  exact bodyPost_ret (v := .string ((⟨#[112]⟩:ByteArray)++(⟨#[109]⟩:ByteArray)++(⟨(decD a.toNat).toArray⟩:ByteArray))) (by simp [results,Tryz.f182,go_sem]) rfl ⟨congrArg (fun x=>Ending.returned (.string x)) (ByteArray.ext (by rw [show wordT ⟨5,true,a,b⟩=[112]++[109]++decD a.toNat++[] from by rfl];simp)),zx⟩
theorem zpn (p:Bool) (a b:Int) (h0:0<=a) (h1:a<=200) (h2:0<=b) (h3:b<=6) (w:World) (hg:Glob w) :
  Calls Tryz.prog 182 #[.agg #[.int .u8 6,.bool p,.int .i64 a,.int .i64 b]] w fun e w'=>e = .returned (.string ⟨(wordT ⟨6,p,a,b⟩).toArray⟩)/\Ext w w':=by
 have HG:=Za hg
 clear hg
 have d1:=zac a.toNat
 have d2:=zac b.toNat
 cases p
 ·go_enter Tryz.func182,Tryz.ntmps182
  go_wp2_with (first
   | (go_at_call 157;((with_reducible refine (zjT _).mono ?_);rintro e w1 ⟨rfl,hq1⟩;obtain ⟨ab,ae,hz1⟩:=hq1.facts))
   | (go_at_call 37;(first | ((with_reducible refine (zah a h0 (by omega) _ (HG.out.ext zx)).mono ?_);rintro e w2 ⟨rfl,hq2⟩;obtain ⟨ac,af,ai⟩:=hq2.facts;have aa:=Zi hq1 (Zi ((Zf w1).alloc (.cells #[.string ⟨#[120]⟩,.int .i64 1,.int .i64 6,.int .i64 1,.int .i64 6,.bool true,.int .i64 3,.int .i64 3] 216)) hq2);obtain ⟨ad,ag,aj⟩:=aa.facts) | ((with_reducible refine (zah b h2 (by omega) _ (HG.out.ext zx)).mono ?_);rintro e w3 ⟨rfl,ah⟩))))
  exact bodyPost_ret (v := .string ((⟨#[107]⟩:ByteArray)++(⟨#[120]⟩:ByteArray)++(⟨(decD a.toNat).toArray⟩:ByteArray)++((⟨#[47]⟩:ByteArray)++(⟨(decD b.toNat).toArray⟩:ByteArray)))) (by simp [results,Tryz.f182,go_sem]) rfl ⟨congrArg (fun x=>Ending.returned (.string x)) (ByteArray.ext (by rw [show wordT ⟨6,false,a,b⟩=[107]++[120]++decD a.toNat++(47::decD b.toNat) from by rfl];simp)),zx⟩
 ·go_enter Tryz.func182,Tryz.ntmps182
  go_wp2_with (first
   | (go_at_call 157;((with_reducible refine (zjT _).mono ?_);rintro e w1 ⟨rfl,hq1⟩;obtain ⟨ab,ae,hz1⟩:=hq1.facts))
   | (go_at_call 37;(first | ((with_reducible refine (zah a h0 (by omega) _ (HG.out.ext zx)).mono ?_);rintro e w2 ⟨rfl,hq2⟩;obtain ⟨ac,af,ai⟩:=hq2.facts;have aa:=Zi hq1 (Zi ((Zf w1).alloc (.cells #[.string ⟨#[120]⟩,.int .i64 1,.int .i64 6,.int .i64 1,.int .i64 6,.bool true,.int .i64 3,.int .i64 3] 216)) hq2);obtain ⟨ad,ag,aj⟩:=aa.facts) | ((with_reducible refine (zah b h2 (by omega) _ (HG.out.ext zx)).mono ?_);rintro e w3 ⟨rfl,ah⟩))))
  exact bodyPost_ret (v := .string ((⟨#[112]⟩:ByteArray)++(⟨#[120]⟩:ByteArray)++(⟨(decD a.toNat).toArray⟩:ByteArray)++((⟨#[47]⟩:ByteArray)++(⟨(decD b.toNat).toArray⟩:ByteArray)))) (by simp [results,Tryz.f182,go_sem]) rfl ⟨congrArg (fun x=>Ending.returned (.string x)) (ByteArray.ext (by rw [show wordT ⟨6,true,a,b⟩=[112]++[120]++decD a.toNat++(47::decD b.toNat) from by rfl];simp)),zx⟩
theorem zpo (p:Bool) (a b:Int) (h0:0<=a) (h1:a<=200) (h2:0<=b) (h3:b<=6) (w:World) (hg:Glob w) :
  Calls Tryz.prog 182 #[.agg #[.int .u8 7,.bool p,.int .i64 a,.int .i64 b]] w fun e w'=>e = .returned (.string ⟨(wordT ⟨7,p,a,b⟩).toArray⟩)/\Ext w w':=by
 have HG:=Za hg
 clear hg
 have d1:=zac a.toNat
 have d2:=zac b.toNat
 cases p
 ·go_enter Tryz.func182,Tryz.ntmps182
  go_wp2_with (first
   | (go_at_call 157;((with_reducible refine (zjU _).mono ?_);rintro e w1 ⟨rfl,hq1⟩;obtain ⟨ab,ae,hz1⟩:=hq1.facts))
   | (go_at_call 37;(first | ((with_reducible refine (zah a h0 (by omega) _ (HG.out.ext zx)).mono ?_);rintro e w2 ⟨rfl,hq2⟩;obtain ⟨ac,af,ai⟩:=hq2.facts;have aa:=Zi hq1 (Zi ((Zf w1).alloc (.cells #[.string ⟨#[121]⟩,.int .i64 1,.int .i64 6,.int .i64 1,.int .i64 6,.bool true,.int .i64 3,.int .i64 3] 216)) hq2);obtain ⟨ad,ag,aj⟩:=aa.facts) | ((with_reducible refine (zah b h2 (by omega) _ (HG.out.ext zx)).mono ?_);rintro e w3 ⟨rfl,ah⟩))))
  exact bodyPost_ret (v := .string ((⟨#[107]⟩:ByteArray)++(⟨#[121]⟩:ByteArray)++(⟨(decD a.toNat).toArray⟩:ByteArray)++((⟨#[47]⟩:ByteArray)++(⟨(decD b.toNat).toArray⟩:ByteArray)))) (by simp [results,Tryz.f182,go_sem]) rfl ⟨congrArg (fun x=>Ending.returned (.string x)) (ByteArray.ext (by rw [show wordT ⟨7,false,a,b⟩=[107]++[121]++decD a.toNat++(47::decD b.toNat) from by rfl];simp)),zx⟩
 ·go_enter Tryz.func182,Tryz.ntmps182
  go_wp2_with (first
   | (go_at_call 157;((with_reducible refine (zjU _).mono ?_);rintro e w1 ⟨rfl,hq1⟩;obtain ⟨ab,ae,hz1⟩:=hq1.facts))
   | (go_at_call 37;(first | ((with_reducible refine (zah a h0 (by omega) _ (HG.out.ext zx)).mono ?_);rintro e w2 ⟨rfl,hq2⟩;obtain ⟨ac,af,ai⟩:=hq2.facts;have aa:=Zi hq1 (Zi ((Zf w1).alloc (.cells #[.string ⟨#[121]⟩,.int .i64 1,.int .i64 6,.int .i64 1,.int .i64 6,.bool true,.int .i64 3,.int .i64 3] 216)) hq2);obtain ⟨ad,ag,aj⟩:=aa.facts) | ((with_reducible refine (zah b h2 (by omega) _ (HG.out.ext zx)).mono ?_);rintro e w3 ⟨rfl,ah⟩))))
  exact bodyPost_ret (v := .string ((⟨#[112]⟩:ByteArray)++(⟨#[121]⟩:ByteArray)++(⟨(decD a.toNat).toArray⟩:ByteArray)++((⟨#[47]⟩:ByteArray)++(⟨(decD b.toNat).toArray⟩:ByteArray)))) (by simp [results,Tryz.f182,go_sem]) rfl ⟨congrArg (fun x=>Ending.returned (.string x)) (ByteArray.ext (by rw [show wordT ⟨7,true,a,b⟩=[112]++[121]++decD a.toNat++(47::decD b.toNat) from by rfl];simp)),zx⟩
theorem zpp (p:Bool) (a b:Int) (w:World) :
  Calls Tryz.prog 182 #[.agg #[.int .u8 8,.bool p,.int .i64 a,.int .i64 b]] w fun e w'=>e = .returned (.string ⟨(wordT ⟨8,p,a,b⟩).toArray⟩)/\Ext w w':=by
 cases p
 ·go_enter Tryz.func182,Tryz.ntmps182
  go_wp2_with (first
   | (go_at_call 157;((with_reducible refine (zjV _).mono ?_);rintro e w1 ⟨rfl,hq1⟩;obtain ⟨aa,ab,hz1⟩:=hq1.facts)))
  exact bodyPost_ret (v := .string ((⟨#[107]⟩:ByteArray)++(⟨#[115]⟩:ByteArray))) (by simp [results,Tryz.f182,go_sem]) rfl ⟨congrArg (fun x=>Ending.returned (.string x)) (ByteArray.ext (by rw [show wordT ⟨8,false,a,b⟩=[107]++[115]++[]++[] from by rfl];simp)),zx⟩
 ·go_enter Tryz.func182,Tryz.ntmps182
  go_wp2_with (first
   | (go_at_call 157;((with_reducible refine (zjV _).mono ?_);rintro e w1 ⟨rfl,hq1⟩;obtain ⟨aa,ab,hz1⟩:=hq1.facts)))
  exact bodyPost_ret (v := .string ((⟨#[112]⟩:ByteArray)++(⟨#[115]⟩:ByteArray))) (by simp [results,Tryz.f182,go_sem]) rfl ⟨congrArg (fun x=>Ending.returned (.string x)) (ByteArray.ext (by rw [show wordT ⟨8,true,a,b⟩=[112]++[115]++[]++[] from by rfl];simp)),zx⟩
theorem zpq (p:Bool) (a b:Int) (h0:0<=a) (h1:a<=200) (w:World) (hg:Glob w) :
  Calls Tryz.prog 182 #[.agg #[.int .u8 9,.bool p,.int .i64 a,.int .i64 b]] w fun e w'=>e = .returned (.string ⟨(wordT ⟨9,p,a,b⟩).toArray⟩)/\Ext w w':=by
 have HG:=Za hg
 clear hg
 have d1:=zac a.toNat
 go_enter Tryz.func182,Tryz.ntmps182
 go_wp2_with (first
   | (go_at_call 37;(first | ((with_reducible refine (zah a h0 (by omega) _ (HG.out.ext zx)).mono ?_);rintro e w2 ⟨rfl,hq2⟩;obtain ⟨hc2,hf2,hz2⟩:=hq2.facts))))
 go_ret
 exact ⟨congrArg (fun x=>Ending.returned (.string x)) (ByteArray.ext (by rw [show wordT ⟨9,p,a,b⟩=[111,110]++decD a.toNat from rfl];simp)),zx⟩
theorem zoC (p:Bool) (a b:Int) (h0:0<=a) (h1:a<=200) (w:World) (hg:Glob w) :
  Calls Tryz.prog 182 #[.agg #[.int .u8 10,.bool p,.int .i64 a,.int .i64 b]] w fun e w'=>e = .returned (.string ⟨(wordT ⟨10,p,a,b⟩).toArray⟩)/\Ext w w':=by
 have HG:=Za hg
 clear hg
 have d1:=zac a.toNat
 cases p
 ·go_enter Tryz.func182,Tryz.ntmps182
  go_wp2_with (first
   | (go_at_call 157;((with_reducible refine (zgD _).mono ?_);rintro e w1 ⟨rfl,hq1⟩;obtain ⟨aa,ac,hz1⟩:=hq1.facts))
   | (go_at_call 37;(first | ((with_reducible refine (zah a h0 (by omega) _ (HG.out.ext zx)).mono ?_);rintro e w2 ⟨rfl,hq2⟩;obtain ⟨ab,ad,ae⟩:=hq2.facts))))
  exact bodyPost_ret (v := .string ((⟨#[107]⟩:ByteArray)++(⟨#[111]⟩:ByteArray)++(⟨(decD a.toNat).toArray⟩:ByteArray))) (by simp [results,Tryz.f182,go_sem]) rfl ⟨congrArg (fun x=>Ending.returned (.string x)) (ByteArray.ext (by rw [show wordT ⟨10,false,a,b⟩=[107]++[111]++decD a.toNat++[] from by rfl];simp)),zx⟩
 ·go_enter Tryz.func182,Tryz.ntmps182
  go_wp2_with (first
   | (go_at_call 157;((with_reducible refine (zgD _).mono ?_);rintro e w1 ⟨rfl,hq1⟩;obtain ⟨aa,ac,hz1⟩:=hq1.facts))
   | (go_at_call 37;(first | ((with_reducible refine (zah a h0 (by omega) _ (HG.out.ext zx)).mono ?_);rintro e w2 ⟨rfl,hq2⟩;obtain ⟨ab,ad,ae⟩:=hq2.facts))))
  exact bodyPost_ret (v := .string ((⟨#[112]⟩:ByteArray)++(⟨#[111]⟩:ByteArray)++(⟨(decD a.toNat).toArray⟩:ByteArray))) (by simp [results,Tryz.f182,go_sem]) rfl ⟨congrArg (fun x=>Ending.returned (.string x)) (ByteArray.ext (by rw [show wordT ⟨10,true,a,b⟩=[112]++[111]++decD a.toNat++[] from by rfl];simp)),zx⟩
theorem zm8 (s:St) (h:okSt s=true) (w:World) (hg:Glob w) :
  Calls Tryz.prog 182 #[.agg #[.int .u8 s.k,.bool s.p,.int .i64 s.a,.int .i64 s.b]] w fun e w'=>e = .returned (.string ⟨(wordT s).toArray⟩)/\Ext w w':=by
 obtain ⟨h0,h1,h2,h3⟩:=zo4 h
 obtain ⟨k,p,a,b⟩:=s
 have hk:=zeG h
 simp only at h0 h1 h2 h3 hk ⊢
 rcases zax hk with e | e | e | e | e | e | e | e | e | e <;> subst e
 ·exact zpi p a b w
 ·exact zpj p a b w
 ·exact zpk p a b h0 h1 w hg
 ·exact zpl p a b h0 h1 w hg
 ·exact zpm p a b h0 h1 w hg
 ·exact zpn p a b h0 h1 h2 h3 w hg
 ·exact zpo p a b h0 h1 h2 h3 w hg
 ·exact zpp p a b w
 ·exact zpq p a b h0 h1 w hg
 ·exact zoC p a b h0 h1 w hg
end Go.Proofs.YtkneghkbgingdaaGreatDoor
/- The text of a list of stitches. -/
namespace Go.Proofs.YtkneghkbgingdaaGreatDoor
set_option maxRecDepth 100000
open Go.RowKit
theorem zl2 {t:List St} {s:St} {n:Nat} {g:List (St×Nat)} (h:grp t=(s,n)::g):t≠[]/\t.getD 0 st0=s:=by
 cases t with
 | nil=>cases h
 | cons x t =>
  refine ⟨by simp,?_⟩
  rcases zby x t with ⟨m,g',h1,h2,h3⟩ | ⟨h1,h2⟩
  ·rw [h3] at h;injection h with h4 _;injection h4
  ·rw [h1] at h;injection h with h4 _;injection h4
theorem zbz:∀(q:Nat) (l:List St) (s:St),1<=q->q<=l.length->(∀t,t<q->l.getD t st0=s)->(q=1∨s.k=1)->(s.k≠1∨q=l.length∨l.getD q st0≠s)->grp l=(s,q)::grp (l.drop q):=by
 intro q
 induction q with
 | zero=>intro l s h;omega
 | succ q ih =>
  intro l s _ hl hs hk ab
  cases l with
  | nil=>simp at hl
  | cons x t =>
   have hx:x=s:=by have:=hs 0 (by omega);simpa using this
   subst hx
   rcases Nat.eq_zero_or_pos q with h0 | h0
   ·subst h0
    rcases zby x t with ⟨m,g,h1,h2,h3⟩ | ⟨h1,h2⟩
    ·exfalso
     obtain ⟨g1,g2⟩:=zl2 h1
     rcases ab with h | h | h
     ·exact h h2
     ·simp at h;exact g1 h
     ·simp at h
      apply h
      rw [Zc] at g2
      exact g2
    ·rw [h1];rfl
   ·have aa:x.k=1:=by rcases hk with h | h <;> first | omega | exact h
    have h4:=ih t x h0 (by simpa using hl) (fun j hj=>by have:=hs (j+1) (by omega);simpa using this) (.inr aa) (by
     rcases ab with h | h | h
     ·exact .inl h
     ·right;left;simpa using h
     ·right;right;simpa using h)
    rw [grp,h4]
    simp [aa]
theorem zj8 (d:UInt8) (ws:List (List UInt8)) (m:Nat) (h:∀x∈ws,x.length<=m):(joinB d ws).length<=(m+1)*ws.length:=zdy h
theorem zcu {x:St×Nat} (h:okSt x.1=true):(wordG x).length<=100:=by
 have h1:=Zq.1 zil x.1 (zbM h)
 simp only [wordOk,Zt,ZG] at h1
 have h2:=zac x.2
 unfold wordG
 rw [Zb]
 split
 ·omega
 ·simp;omega
theorem ze1 (n c:Nat) (A:Option Addr) (l:List St) (w:World) (hl:Vec shSt w A n l) (hn:n<=200) (ho:allB l=true) (hg:Glob w) :
  Calls Tryz.prog 164 #[.slice A n c] w fun e w'=>e = .returned (.string ⟨(textL l).toArray⟩)/\Ext w w':=by
 have HX:=Za hl
 have HO:=Za ho
 have HG:=Za hg
 have HL:=Za hl.1
 have HW:=Za (show (joinB 32 ((grp l).map wordG)).length<=100000000 by
  have h1:=zj8 32 ((grp l).map wordG) 100 (fun x hx=>by
   obtain ⟨y,hy,rfl⟩:=List.mem_map.1 hx
   exact zcu (Zq.1 ho _ (zew hy).1))
  have h2:=zj1 l
  have h3:=hl.1
  rw [List.length_map] at h1
  omega)
 clear hl ho hg
 go_enter Tryz.func164,Tryz.ntmps164
 go_wp2_with fail
 go_loopw [3,4] (fun u i wr=>∃(V:Value) (k j:Nat) (ws:List (List UInt8)),V=u/\i = .int .i64 k/\k<=n/\j<=k/\Hid (OwnV shStr wr w.heap.size 9 V j ws)/\Hid (Ext w wr)/\Hid (ws++(grp (l.drop k)).map wordG=(grp l).map wordG)) (fun _ i _=>n-(intOf i).toNat)
 case atStart=>exact ⟨_,0,0,[],rfl,rfl,Zy _,Zg _,Za (OwnV.nil _ _ _ _),Za zx,Za (by simp)⟩
 case round =>
  obtain ⟨V,k,j,ws,rfl,rfl,hk,hj,HV,HE,HT⟩:=hrel
  obtain ⟨wa,rfl⟩:∃wa:World,wa=wr:=⟨_,rfl⟩
  have hxr:=HE.out
  by_cases hlt:k<n
  ·obtain ⟨b,off,rfl,ai,hc⟩:=Sts.all (Vec.ext HX.out HE.out) (by omega)
   have HC:=Za hc
   obtain ⟨c1,c2,c3,c4⟩:=hc k hlt
   have aw:=zcy HO.out (k:=k) (by rw [HL.out];omega)
   obtain ⟨s,hs⟩:∃s,l.getD k st0=s:=⟨_,rfl⟩
   rw [hs] at c1 c2 c3 c4 aw
   have HS:=Za hs
   clear hs hc
   obtain ⟨sk,sp,sa,sb⟩:=s
   simp only at c1 c2 c3 c4
   have q0:(0:Int)<=(k:Int):=by omega
   have q1:(k:Int)<(n:Int):=by omega
   obtain ⟨T,hT⟩:∃T,wordT ⟨sk,sp,sa,sb⟩=T:=⟨_,rfl⟩
   have am:=Za (show ∀w',Glob w'->Calls Tryz.prog 182 #[.agg #[.int .u8 sk,.bool sp,.int .i64 sa,.int .i64 sb]] w' fun e w''=>e = .returned (.string ⟨T.toArray⟩)/\Ext w' w'' from fun w' hg=>by
    have h9:=zm8 ⟨sk,sp,sa,sb⟩ aw w' hg
    rw [hT] at h9
    exact h9)
   have tl:T.length<=100:=by
    have h9:=zcu (x:=(⟨sk,sp,sa,sb⟩,1)) aw
    rw [<-hT]
    simpa [wordG] using h9
   have aj:=Za (show wordG (⟨sk,sp,sa,sb⟩,1)=T by rw [<-hT];simp [wordG])
   have ax:=Za hT
   have hn9:(n:Int)<=200:=by omega
   clear hT
   go_wp2_with fail
   go_loopw [5] (fun q wi=>∃(m:Nat),q = .int .i64 m/\1<=m/\k+m<=n/\Hid (m=1∨sk=1)/\Hid (∀t,t<m->l.getD (k+t) st0=⟨sk,sp,sa,sb⟩)/\Hid (Ext wa wi)) (fun q _=>n-k-(intOf q).toNat)
   case atStart=>exact ⟨1,rfl,Zg _,by omega,Za (.inl rfl),Za (fun t ht=>(by obtain rfl:t=0:=(by omega);exact HS.out)),Za zx⟩
   case round =>
    obtain ⟨m,rfl,av,hm2,aB,HA,af⟩:=hrel
    have al:=Za (HE.out.trans af.out)
    have ag:=Za (fun (w':World) (h:Ext wr w')=>(⟨al.out.trans h,af.out.trans h⟩:Ext w w'/\Ext wa w'))
    have d1:=(Zs (p:=⟨b,off+k*4,none⟩) af.out ai).trans c1
    have d2:=(Zs (p:=⟨b,off+k*4+1,none⟩) af.out ai).trans c2
    have d3:=(Zs (p:=⟨b,off+k*4+2,none⟩) af.out ai).trans c3
    have d4:=(Zs (p:=⟨b,off+k*4+3,none⟩) af.out ai).trans c4
    by_cases hk1:sk=1
    ·by_cases hkm:k+m<n
     ·obtain ⟨e1,e2,e3,e4⟩:=HC.out (k+m) hkm
      replace e1:=(Zs (p:=⟨b,_,none⟩) af.out ai).trans e1
      replace e2:=(Zs (p:=⟨b,_,none⟩) af.out ai).trans e2
      replace e3:=(Zs (p:=⟨b,_,none⟩) af.out ai).trans e3
      replace e4:=(Zs (p:=⟨b,_,none⟩) af.out ai).trans e4
      have i1:=Zh ((k:Int)+(m:Int)) (by omega)
      have q2:(0:Int)<=(k:Int)+(m:Int):=by omega
      have q3:(k:Int)+(m:Int)<(n:Int):=by omega
      by_cases hxy:l.getD (k+m) st0=⟨sk,sp,sa,sb⟩
      ·rw [hxy] at e1 e2 e3 e4
       simp only at e1 e2 e3 e4
       have az:=Za (show ∀t,t<m+1->l.getD (k+t) st0=⟨sk,sp,sa,sb⟩ from fun t ht=>by
        by_cases e:t=m
        ·subst e;exact hxy
        ·exact HA.out t (by omega))
       clear hxy
       subst hk1
       go_wp2_with fail
       go_quiet (fail)
       go_wp2
       go_roundw
       case rel=>exact ⟨m+1,by go_num,by omega,by omega,Za (by first | exact .inr rfl | exact .inr trivial),az,Za zx⟩
       case measure=>simp [intOf];omega
      ·generalize hy:l.getD (k+m) st0=y at *
       obtain ⟨y1,y2,y3,y4⟩:=y
       simp only at e1 e2 e3 e4
       have hne:=zbS hxy
       have aA:=Za hxy
       clear hxy
       subst hk1
       go_wp2_with fail
       go_quiet (fail)
       go_wp2_with fail
       have HQ:=Za (show grp (l.drop k)=(⟨1,sp,sa,sb⟩,m)::grp (l.drop (k+m)) by
        have h9:=zbz m (l.drop k) ⟨1,sp,sa,sb⟩ av (by rw [Zu,HL.out];omega) (fun t ht=>by rw [<-HA.out t ht];simp [List.getD_eq_getElem?_getD]) (.inr rfl) (.inr (.inr (by have h8:(l.drop k).getD m st0=⟨y1,y2,y3,y4⟩:=(by rw [<-hy];simp [List.getD_eq_getElem?_getD]);rw [h8];exact aA.out)))
        rw [h9,List.drop_drop])
       by_cases hm:m=1
       ·subst hm
        go_wp2_with (first
         | (go_at_call 182;(((with_reducible refine (am.out _ (HG.out.ext (al.out.trans zx))).mono ?_);rintro e w5 ⟨rfl,ad⟩;have ae:=Za (ag.out _ (Zi zx ad)).1;have ah:=Za (ag.out _ (Zi zx ad)).2;clear ad)))
         | (at_builtin;(refine zab (S:=shStr) (w:=w) (m:=1) (xs:=[T]) 67 9 (.string ⟨#[]⟩) 16 (by rfl) (by rfl) Tryz.underlying67 zbC (by rfl) (by omega) (by rfl) (by rfl) (OwnV.ext HV.out (ah.out.trans zx)) (ae.out.trans zx) (Vec.lit2 (by simp) rfl rfl) (by omega) ?_;intro v' w6 aa ab ac)))
        have HN:=Za aa
        have HF:=Za (show (ws++[T])++(grp (l.drop (k+1))).map wordG=(grp l).map wordG by
         rw [<-HT.out,HQ.out,<-aj.out]
         simp)
        clear aa ac
        go_roundw
        case rel=>exact ⟨v',k+1,j+1,ws++[T],rfl,by go_num,by omega,by omega,HN,ab,HF⟩
        case measure=>simp [intOf];omega
       ·have aC:(1:Int)<(m:Int):=by omega
        obtain ⟨D,hD⟩:∃D,decD m=D:=⟨_,rfl⟩
        obtain ⟨G,hG⟩:∃G,T++D=G:=⟨_,rfl⟩
        have ap:=Za (show ∀w',Glob w'->Calls Tryz.prog 37 #[.int .i64 (m:Int)] w' fun e w''=>e = .returned (.string ⟨D.toArray⟩)/\Ext w' w'' from fun w' hg=>by
         have h9:=zah (m:Int) (by omega) (by omega) w' hg
         rw [Int.toNat_natCast,hD] at h9
         exact h9)
        have au:(⟨T.toArray⟩++⟨D.toArray⟩:ByteArray)=⟨G.toArray⟩:=by rw [zaa,hG]
        have an:wordG (⟨1,sp,sa,sb⟩,m)=G:=by rw [wordG,if_pos (by simp only;omega),ax.out,hD,hG]
        have aq:=Za an
        have dl:D.length<=20:=by rw [<-hD];exact zac m
        clear hD hG an
        go_wp2_with (first
         | (go_at_call 182;(((with_reducible refine (am.out _ (HG.out.ext (al.out.trans zx))).mono ?_);rintro e w5 ⟨rfl,ad⟩;have ae:=Za (ag.out _ (Zi zx ad)).1;have ah:=Za (ag.out _ (Zi zx ad)).2;clear ad)))
         | (go_at_call 37;(((with_reducible refine (ap.out _ (HG.out.ext (ae.out.trans zx))).mono ?_);rintro e w7 ⟨rfl,ak⟩;have ao:=Za (ae.out.trans (Zi (show Ext w5 _ from zx) ak));have ar:=Za (ah.out.trans (Zi (show Ext w5 _ from zx) ak));clear ak)))
         | (at_builtin;(refine zab (S:=shStr) (w:=w) (m:=1) (xs:=[G]) 67 9 (.string ⟨#[]⟩) 16 (by rfl) (by rfl) Tryz.underlying67 zbC (by rfl) (by omega) (by rfl) (by rfl) (OwnV.ext HV.out (ar.out.trans zx)) (ao.out.trans zx) (Vec.lit2 (by simp) rfl rfl) (by omega) ?_;intro v' w6 aa ab ac)))
        have HN:=Za aa
        have HF:=Za (show (ws++[G])++(grp (l.drop (k+m))).map wordG=(grp l).map wordG by
         rw [<-HT.out,HQ.out,Z6,aq.out]
         simp)
        clear aa ac
        go_roundw
        case rel=>exact ⟨v',k+m,j+1,ws++[G],rfl,by go_num,by omega,by omega,HN,ab,HF⟩
        case measure=>simp [intOf];omega
     ·have i1:=Zh ((k:Int)+(m:Int)) (by omega)
      have q3:decide ((k:Int)+(m:Int)<(n:Int))=false:=by simp;omega
      subst hk1
      go_wp2_with fail
      go_quiet (fail)
      go_wp2_with fail
      have HQ:=Za (show grp (l.drop k)=(⟨1,sp,sa,sb⟩,m)::grp (l.drop (k+m)) by
       have h9:=zbz m (l.drop k) ⟨1,sp,sa,sb⟩ av (by rw [Zu,HL.out];omega) (fun t ht=>by rw [<-HA.out t ht];simp [List.getD_eq_getElem?_getD]) (.inr rfl) (.inr (.inl (by rw [Zu,HL.out];omega)))
       rw [h9,List.drop_drop])
      by_cases hm:m=1
      ·subst hm
       go_wp2_with (first
        | (go_at_call 182;(((with_reducible refine (am.out _ (HG.out.ext (al.out.trans zx))).mono ?_);rintro e w5 ⟨rfl,ad⟩;have ae:=Za (ag.out _ (Zi zx ad)).1;have ah:=Za (ag.out _ (Zi zx ad)).2;clear ad)))
        | (at_builtin;(refine zab (S:=shStr) (w:=w) (m:=1) (xs:=[T]) 67 9 (.string ⟨#[]⟩) 16 (by rfl) (by rfl) Tryz.underlying67 zbC (by rfl) (by omega) (by rfl) (by rfl) (OwnV.ext HV.out (ah.out.trans zx)) (ae.out.trans zx) (Vec.lit2 (by simp) rfl rfl) (by omega) ?_;intro v' w6 aa ab ac)))
       have HN:=Za aa
       have HF:=Za (show (ws++[T])++(grp (l.drop (k+1))).map wordG=(grp l).map wordG by
        rw [<-HT.out,HQ.out,<-aj.out]
        simp)
       clear aa ac
       go_roundw
       case rel=>exact ⟨v',k+1,j+1,ws++[T],rfl,by go_num,by omega,by omega,HN,ab,HF⟩
       case measure=>simp [intOf];omega
      ·have aC:(1:Int)<(m:Int):=by omega
       obtain ⟨D,hD⟩:∃D,decD m=D:=⟨_,rfl⟩
       obtain ⟨G,hG⟩:∃G,T++D=G:=⟨_,rfl⟩
       have ap:=Za (show ∀w',Glob w'->Calls Tryz.prog 37 #[.int .i64 (m:Int)] w' fun e w''=>e = .returned (.string ⟨D.toArray⟩)/\Ext w' w'' from fun w' hg=>by
        have h9:=zah (m:Int) (by omega) (by omega) w' hg
        rw [Int.toNat_natCast,hD] at h9
        exact h9)
       have au:(⟨T.toArray⟩++⟨D.toArray⟩:ByteArray)=⟨G.toArray⟩:=by rw [zaa,hG]
       have an:wordG (⟨1,sp,sa,sb⟩,m)=G:=by rw [wordG,if_pos (by simp only;omega),ax.out,hD,hG]
       have aq:=Za an
       have dl:D.length<=20:=by rw [<-hD];exact zac m
       clear hD hG an
       go_wp2_with (first
        | (go_at_call 182;(((with_reducible refine (am.out _ (HG.out.ext (al.out.trans zx))).mono ?_);rintro e w5 ⟨rfl,ad⟩;have ae:=Za (ag.out _ (Zi zx ad)).1;have ah:=Za (ag.out _ (Zi zx ad)).2;clear ad)))
        | (go_at_call 37;(((with_reducible refine (ap.out _ (HG.out.ext (ae.out.trans zx))).mono ?_);rintro e w7 ⟨rfl,ak⟩;have ao:=Za (ae.out.trans (Zi (show Ext w5 _ from zx) ak));have ar:=Za (ah.out.trans (Zi (show Ext w5 _ from zx) ak));clear ak)))
        | (at_builtin;(refine zab (S:=shStr) (w:=w) (m:=1) (xs:=[G]) 67 9 (.string ⟨#[]⟩) 16 (by rfl) (by rfl) Tryz.underlying67 zbC (by rfl) (by omega) (by rfl) (by rfl) (OwnV.ext HV.out (ar.out.trans zx)) (ao.out.trans zx) (Vec.lit2 (by simp) rfl rfl) (by omega) ?_;intro v' w6 aa ab ac)))
       have HN:=Za aa
       have HF:=Za (show (ws++[G])++(grp (l.drop (k+m))).map wordG=(grp l).map wordG by
        rw [<-HT.out,HQ.out,Z6,aq.out]
        simp)
       clear aa ac
       go_roundw
       case rel=>exact ⟨v',k+m,j+1,ws++[G],rfl,by go_num,by omega,by omega,HN,ab,HF⟩
       case measure=>simp [intOf];omega
    ·have hk2:(sk==1)=false:=by simpa using hk1
     have HK:=Za hk1
     obtain rfl:m=1:=by rcases aB.out with h | h <;> first | exact h | exact absurd h hk1
     clear hk1
     go_wp2_with fail
     go_quiet (fail)
     go_wp2_with fail
     have HQ:=Za (show grp (l.drop k)=(⟨sk,sp,sa,sb⟩,1)::grp (l.drop (k+1)) by
      have h9:=zbz 1 (l.drop k) ⟨sk,sp,sa,sb⟩ av (by rw [Zu,HL.out];omega) (fun t ht=>by rw [<-HA.out t ht];simp [List.getD_eq_getElem?_getD]) (.inl rfl) (.inl HK.out)
      rw [h9,List.drop_drop])
     go_wp2_with (first
      | (go_at_call 182;(((with_reducible refine (am.out _ (HG.out.ext (al.out.trans zx))).mono ?_);rintro e w5 ⟨rfl,ad⟩;have ae:=Za (ag.out _ (Zi zx ad)).1;have ah:=Za (ag.out _ (Zi zx ad)).2;clear ad)))
      | (at_builtin;(refine zab (S:=shStr) (w:=w) (m:=1) (xs:=[T]) 67 9 (.string ⟨#[]⟩) 16 (by rfl) (by rfl) Tryz.underlying67 zbC (by rfl) (by omega) (by rfl) (by rfl) (OwnV.ext HV.out (ah.out.trans zx)) (ae.out.trans zx) (Vec.lit2 (by simp) rfl rfl) (by omega) ?_;intro v' w6 aa ab ac)))
     have HN:=Za aa
     have HF:=Za (show (ws++[T])++(grp (l.drop (k+1))).map wordG=(grp l).map wordG by
      rw [<-HT.out,HQ.out,<-aj.out]
      simp)
     clear aa ac
     go_roundw
     case rel=>exact ⟨v',k+1,j+1,ws++[T],rfl,by go_num,by omega,by omega,HN,ab,HF⟩
     case measure=>simp [intOf];omega
  ·obtain rfl:k=n:=by omega
   have ay:=Za (show ws=(grp l).map wordG by
    have h9:=HT.out
    rw [Z3 (Nat.le_of_eq HL.out)] at h9
    simpa [grp] using h9)
   obtain ⟨A9,c9,rfl,hv9, -⟩:=zaf HV.out
   go_wp2_with (go_at_call 183;((with_reducible refine (zl8 w.heap.size j c9 A9 ws 32 9 _ (OwnV.ext HV.out zx) (by rw [ay.out];exact HW.out) (by omega)).mono ?_);rintro e w8 ⟨rfl,hq8⟩))
   go_ret
   exact ⟨by rw [ay.out];rfl,zx⟩
end Go.Proofs.YtkneghkbgingdaaGreatDoor
/- Text of stitches. -/
namespace Go.Proofs.YtkneghkbgingdaaGreatDoor
set_option maxRecDepth 100000
open Go.RowKit
def textG (l:List St):List UInt8:=if allE l=0 then textL l else []
theorem zlg (n c:Nat) (A:Option Addr) (l:List St) (w:World) (hl:Vec shSt w A n l) (hn:n<=maxLen) (hby:Bytes l) (hg:Glob w) :
  Calls Tryz.prog 136 #[.slice A n c] w fun e w'=>e = .returned (.tuple #[.string ⟨(textG l).toArray⟩,.int .i64 (allE l)])/\Ext w w':=by
 have HX:=Za hl
 have HG:=Za hg
 have HS:=Za (zcr n c A l w hl hn hby)
 by_cases h0:allE l=0
 ·obtain ⟨h1,h2, -, -⟩:=za8 h0
  have hs:=zcO h0
  have HA:=Za h0
  have h3:n<=200:=by rw [<-hl.1];exact h1
  have HT:=Za (fun (w':World) (hb:Ext w w')=>ze1 n c A l w' (hl.ext hb) h3 h2 (hg.ext hb))
  have HTG:=Za (show textG l=textL l by rw [textG,if_pos h0])
  rw [textG,if_pos h0]
  clear hl hg hby h0 h1 h2
  generalize textL l=T at *
  have hs2:¬((3000:Int)<(T.length:Int)):=by omega
  go_enter Tryz.func136,Tryz.ntmps136
  go_wp2_with (first
   | (go_at_call 126;((with_reducible refine HS.out.mono ?_);rintro e w1 ⟨rfl,hq1⟩;rw [HA.out]))
   | (go_at_call 164;((with_reducible refine (HT.out _ zx).mono ?_);rintro e w2 ⟨rfl,hq2⟩)))
  go_ret2
  exact ⟨by rw [HA.out];rfl,zx⟩
 ·rw [textG,if_neg h0]
  obtain ⟨x,hx⟩:∃x,allE l=x:=⟨_,rfl⟩
  rw [hx] at h0
  have HA:=Za hx
  have hb:(x != 0)=true:=by simpa using h0
  clear hl hg hby h0 hx
  go_enter Tryz.func136,Tryz.ntmps136
  go_wp2_with (first
   | (go_at_call 126;((with_reducible refine HS.out.mono ?_);rintro e w1 ⟨rfl,hq1⟩;rw [HA.out])))
  go_ret2
  exact ⟨by rw [HA.out];rfl,zx⟩
end Go.Proofs.YtkneghkbgingdaaGreatDoor
