/- Text of terms. -/
import Derived.Test.YtkneghkbgingdaaGreatDoorK13
import Derived.Lib.DecodeN
import Derived.Lib.IndexAny
set_option maxHeartbeats 16000000
namespace Go.Proofs.YtkneghkbgingdaaGreatDoor
set_option maxRecDepth 100000
open Go.RowKit Go.ChangeShapes Go.WideShapes Go.Joins
theorem zeI (w1:World):WSt w1 (w1.alloc (.cells #[.pointer none,.slice none 0 0] 80)) w1.heap.size [] (w1.alloc (.cells #[.pointer none,.slice none 0 0] 80)) :=
 ⟨zmc w1 _ 5 _ (Zf _),(Zd w1).alloc _,Lib.OthersKept.refl _ _ _⟩
theorem znZ:∀ {t:Tms},fineT t=true→(wT t).length≤200*t.size:=by
 intro t
 induction t with
 | nil=>intro _;simp [wT,Tms.size]
 | cons n c g r ih1 ih2 =>
  intro h
  obtain ⟨hn,hg,hr,hc,_⟩:=zcy h
  have h1:=ih1 hg
  have h2:=ih2 hr
  have h3:(timesW n).length≤21:=by
   unfold timesW
   have:=zae n.toNat
   split
   ·simp;omega
   ·simp
  have h4:(headW c g).length≤100+(wT g).length:=by
   by_cases h0:g = .nil
   ·subst h0
    have h5:=zcs (x:=(c,1)) (hc rfl)
    show (textL [c]).length≤_
    rw [zdp]
    have:(wordT c).length≤100:=by simpa [wordG] using h5
    omega
   ·rw [zce h0]
    simp
    omega
  simp only [Tms.size]
  by_cases h0:r = .nil
  ·subst h0
   rw [zft,Zh]
   omega
  ·rw [zdq _ _ _ _ h0,Zh,Zh,Zk]
   omega
def TxR (t:Tms) (w:World) (e:Ending) (w':World):Prop:=e = .returned (.tuple #[.string ⟨(ttextV t).toArray⟩,.int .i64 (ttextE t)])∧Ext w w'
theorem zfq (t:Tms) (ht:t.size≤5000) (A:Option Addr) (n cap:Nat) (w:World) (hv:Tv w A n t) (hg:Glob w) :
  Calls Tryz.prog 71 #[.slice A n cap] w (TxR t w):=by
 have HV:=Za hv
 have HG:=Za hg
 obtain ⟨x,hx⟩:∃x,tchkE t=x:=⟨_,rfl⟩
 by_cases h0:x=0
 case neg =>
  have HT:=Za (show ttextE t=x∧ttextV t=[] by
   have h1:ttextE t=x:=by rw [ttextE,hx,if_pos h0]
   exact ⟨h1,by rw [ttextV,h1,if_neg h0]⟩)
  have HX:=Za hx
  have hb:(x != 0)=true:=by simpa using h0
  clear hv hg hx h0
  go_enter Tryz.func71,Tryz.ntmps71
  go_wp2_with (go_at_call 101;((with_reducible refine (zbn t ht A n cap _ (HV.out.ext zx)).mono ?_);rintro e w1 ⟨rfl,hq1⟩;rw [HX.out]))
  go_ret2
  exact ⟨by rw [HT.out.1,HT.out.2];rfl,zx⟩
 subst h0
 have HX:=Za hx
 obtain ⟨hs,hd,hf⟩:=za5 hx
 have hwl:=znZ hf
 obtain ⟨T,hT⟩:∃T,wT t=T:=⟨_,rfl⟩
 rw [hT] at hwl
 have hW:=fun (w0:World) (b:Nat) (w':World) (h1:Glob w0) (h2:Tv w0 A n t) (h3:WSt w0 w' b [] w')=>(show Calls Tryz.prog 102 #[.pointer (some ⟨b,0,none⟩),.slice A n cap] w' fun e w''=>e = .returned (.tuple #[])∧WSt w0 w' b T w'' from by
  have h:=zjW 5000 (by omega) t ht hf w0 w' b A n cap [] w' h1 h2 h3 (by rw [hT];simp;omega)
  rw [hT,List.nil_append] at h
  exact h)
 have HW:=Za hW
 have HE:(3000<T.length∧Hid (ttextE t=4∧ttextV t=[]))∨(¬3000<T.length∧Hid (ttextE t=0∧ttextV t=T)):=by
  by_cases h:3000<T.length
  ·left
   have h1:ttextE t=4:=by rw [ttextE,hx,if_neg (by simp),hT,if_pos h]
   exact ⟨h,Za ⟨h1,by rw [ttextV,h1,if_neg (by decide)]⟩⟩
  ·right
   have h1:ttextE t=0:=by rw [ttextE,hx,if_neg (by simp),hT,if_neg h]
   exact ⟨h,Za ⟨h1,by rw [ttextV,h1,if_pos rfl,hT]⟩⟩
 clear hv hg hx hW hT hf hs hd
 rcases HE with ⟨hl,HE⟩ | ⟨hl,HE⟩
 ·have hl2:((3000:Int)<(T.length:Int)):=by omega
  go_enter Tryz.func71,Tryz.ntmps71
  go_wp2_with (first
   | (go_at_call 101;((with_reducible refine (zbn t ht A n cap _ (HV.out.ext zx)).mono ?_);rintro e w1 ⟨rfl,hq1⟩;rw [HX.out]))
   | (go_at_call 102;((with_reducible refine (HW.out w1 _ _ (HG.out.ext zx) (HV.out.ext zx) (zeI w1)).mono ?_);rintro e w2 ⟨rfl,hs2⟩;have HS2:=Za hs2;clear hs2))
   | (go_at_call 39;((refine (Tryz.Builder_Len_f _ _ _ _ HS2.out.bl).mono ?_);rintro e w3 ⟨rfl,rfl⟩;rw [zaW])))
  go_ret2
  exact ⟨by rw [HE.out.1,HE.out.2];rfl,Zb zx HS2.out.ex⟩
 ·have hl2:¬((3000:Int)<(T.length:Int)):=by omega
  go_enter Tryz.func71,Tryz.ntmps71
  go_wp2_with (first
   | (go_at_call 101;((with_reducible refine (zbn t ht A n cap _ (HV.out.ext zx)).mono ?_);rintro e w1 ⟨rfl,hq1⟩;rw [HX.out]))
   | (go_at_call 102;((with_reducible refine (HW.out w1 _ _ (HG.out.ext zx) (HV.out.ext zx) (zeI w1)).mono ?_);rintro e w2 ⟨rfl,hs2⟩;have HS2:=Za hs2;clear hs2))
   | (go_at_call 39;((refine (Tryz.Builder_Len_f _ _ _ _ HS2.out.bl).mono ?_);rintro e w3 ⟨rfl,rfl⟩;rw [zaW]))
   | (go_at_call 40;((refine (Tryz.Builder_String_any_k w1.heap.size _ T _ HS2.out.bl (Zr HS2.out.ex)).mono ?_);rintro e w4 ⟨rfl, -,hq4, -⟩;have HS4:=Za (Below.trans HS2.out.ex hq4))))
  go_ret2
  exact ⟨by rw [HE.out.1,HE.out.2];rfl,Zb zx HS4.out⟩
end Go.Proofs.YtkneghkbgingdaaGreatDoor
/- Runes of bytes of 128 and more: they are no runes below 128,and what is skipped with them are such bytes. -/
namespace Go.Proofs.YtkneghkbgingdaaGreatDoor
set_option maxRecDepth 100000
theorem zio (n b0 b1 b2 b3:Nat) (h:128≤b0) (h2:b0<256) :
  128≤(Lib.decodeN n b0 b1 b2 b3).1∧(Lib.decodeN n b0 b1 b2 b3).1≤1114111∧((Lib.decodeN n b0 b1 b2 b3).1<55296∨57344≤(Lib.decodeN n b0 b1 b2 b3).1)∧1≤(Lib.decodeN n b0 b1 b2 b3).2 ∧
  ∀k,k<(Lib.decodeN n b0 b1 b2 b3).2→k=0∨(k=1∧1<n∧128≤b1)∨(k=2∧2<n∧128≤b2)∨(k=3∧3<n∧128≤b3):=by
 have m1:=Nat.mod_lt b1 (show 0<64 by decide)
 have m2:=Nat.mod_lt b2 (show 0<64 by decide)
 have m3:=Nat.mod_lt b3 (show 0<64 by decide)
 unfold Lib.decodeN
 repeat' split
 all_goals refine ⟨?_,?_,?_,?_,fun k hk=>?_⟩
 all_goals simp only [] at *
 all_goals omega
theorem zkj (s:ByteArray) (i:Nat) (hi:i<s.size) (h:128≤(s[i]'hi).toNat) :
  128≤(Utf8.decode s i).1∧(Utf8.decode s i).1≤1114111∧((Utf8.decode s i).1<55296∨57344≤(Utf8.decode s i).1)∧1≤(Utf8.decode s i).2∧i+(Utf8.decode s i).2≤s.size ∧
  ∀(j:Nat) x,i≤j→j<i+(Utf8.decode s i).2→s.data.toList[j]?=some x→128≤x.toNat:=by
 have hg:∀(j:Nat),j<s.size→s.data.toList[j]?=some (s.get! j):=fun j hj=>by
  have hj2:j<s.data.size:=hj
  rw [Array.getElem?_toList,Array.getElem?_eq_getElem hj2]
  exact congrArg some (getElem!_pos s.data j hj2).symm
 have e0:s.get! i=s[i]'hi:=by
  have hj2:i<s.data.size:=hi
  exact getElem!_pos s.data i hj2
 obtain ⟨h1,h2,h3,h4,h5⟩:=zio (s.size-i) (s.get! i).toNat (s.get! (i+1)).toNat (s.get! (i+2)).toNat (s.get! (i+3)).toNat (by rw [e0];exact h) (UInt8.toNat_lt _)
 rw [←Lib.decode_at] at h1 h2 h3 h4 h5
 have hw:i+(Utf8.decode s i).2≤s.size:=by
  have h9:=h5 ((Utf8.decode s i).2-1) (by omega)
  omega
 refine ⟨h1,h2,h3,h4,hw,fun j x hij hj hx=>?_⟩
 rw [hg j (by omega)] at hx
 cases hx
 have h9:=h5 (j-i) (by omega)
 rcases h9 with h9 | ⟨h9,_,h10⟩ | ⟨h9,_,h10⟩ | ⟨h9,_,h10⟩
 ·rw [show j=i by omega,e0]
  exact h
 ·rw [show j=i+1 by omega]
  exact h10
 ·rw [show j=i+2 by omega]
  exact h10
 ·rw [show j=i+3 by omega]
  exact h10
theorem zoU (a b:UInt8):(⟨#[a,b]⟩:ByteArray)=⟨[a,b].toArray⟩:=rfl
theorem zoV (a b c:UInt8):(⟨#[a,b,c]⟩:ByteArray)=⟨[a,b,c].toArray⟩:=rfl
theorem zoW (a b c d:UInt8):(⟨#[a,b,c,d]⟩:ByteArray)=⟨[a,b,c,d].toArray⟩:=rfl
theorem zkl (c:Nat) (h:128≤c) (h2:c≤1114111) (h3:c<55296∨57344≤c) :
  ∃(n:Nat) (l:List UInt8),Utf8.encode (c:Int)=⟨l.toArray⟩∧l.length=n+1∧1≤n∧n≤3∧∀x∈l,128≤x.toNat:=by
 have hv:Utf8.valid (c:Int)=true:=by
  unfold Utf8.valid
  rw [Bool.or_eq_true,Zs,Zs,Zx,Zx,Zx,Zx]
  omega
 have hb:∀n:Nat,128≤n→n<256→128≤(UInt8.ofNat n).toNat:=fun n h1 h2=>by
  rw [UInt8.toNat_ofNat',Nat.mod_eq_of_lt h2]
  exact h1
 unfold Utf8.encode
 rw [hv]
 simp only [if_true,Int.toNat_natCast]
 have d1:=Nat.mod_lt c (show 0<64 by decide)
 have d2:=Nat.mod_lt (c / 64) (show 0<64 by decide)
 have d3:=Nat.mod_lt (c / 4096) (show 0<64 by decide)
 rw [if_neg (by omega)]
 split
 ·refine ⟨1,_,zoU _ _,rfl,by omega,by omega,fun x hx=>?_⟩
  simp only [ZG,List.not_mem_nil,or_false] at hx
  rcases hx with rfl | rfl <;> exact hb _ (by omega) (by omega)
 ·split
  ·refine ⟨2,_,zoV _ _ _,rfl,by omega,by omega,fun x hx=>?_⟩
   simp only [ZG,List.not_mem_nil,or_false] at hx
   rcases hx with rfl | rfl | rfl <;> exact hb _ (by omega) (by omega)
  ·refine ⟨3,_,zoW _ _ _ _,rfl,by omega,by omega,fun x hx=>?_⟩
   simp only [ZG,List.not_mem_nil,or_false] at hx
   rcases hx with rfl | rfl | rfl | rfl <;> exact hb _ (by omega) (by omega)
end Go.Proofs.YtkneghkbgingdaaGreatDoor
/- The library contracts that this claim uses besides,laid at its program by the kit (lay-shelf,lay-plain) and cut down to those. -/
namespace Go.Proofs
open Go.Shelf
end Go.Proofs
