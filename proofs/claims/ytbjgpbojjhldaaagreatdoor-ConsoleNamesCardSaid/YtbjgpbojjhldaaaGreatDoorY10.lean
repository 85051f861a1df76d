/- Runes of bytes of 128 and more: they are no runes below 128, and what is skipped with them are such bytes. -/
import Derived.Lib.DecodeN
import Derived.Lib.IndexAny
import Derived.Test.YtbjgpbojjhldaaaGreatDoorY02
namespace Go.Proofs.YtbjgpbojjhldaaaGreatDoor
set_option maxRecDepth 100000
theorem zjy (n b0 b1 b2 b3:Nat) (h:128<=b0) (h2:b0<256) :
  128<=(Lib.decodeN n b0 b1 b2 b3).1/\(Lib.decodeN n b0 b1 b2 b3).1<=1114111/\((Lib.decodeN n b0 b1 b2 b3).1<55296∨57344<=(Lib.decodeN n b0 b1 b2 b3).1)/\1<=(Lib.decodeN n b0 b1 b2 b3).2 /\
  ∀k,k<(Lib.decodeN n b0 b1 b2 b3).2->k=0∨(k=1/\1<n/\128<=b1)∨(k=2/\2<n/\128<=b2)∨(k=3/\3<n/\128<=b3):=by
 have m1:=Nat.mod_lt b1 (show 0<64 by decide)
 have m2:=Nat.mod_lt b2 (show 0<64 by decide)
 have m3:=Nat.mod_lt b3 (show 0<64 by decide)
 unfold Lib.decodeN
 repeat' split
 all_goals refine ⟨?_,?_,?_,?_,fun k hk=>?_⟩
 all_goals simp only [] at *
 all_goals omega
theorem zmc (s:ByteArray) (i:Nat) (hi:i<s.size) (h:128<=(s[i]'hi).toNat) :
  128<=(Utf8.decode s i).1/\(Utf8.decode s i).1<=1114111/\((Utf8.decode s i).1<55296∨57344<=(Utf8.decode s i).1)/\1<=(Utf8.decode s i).2/\i+(Utf8.decode s i).2<=s.size /\
  ∀(j:Nat) x,i<=j->j<i+(Utf8.decode s i).2->s.data.toList[j]?=some x->128<=x.toNat:=by
 have hg:∀(j:Nat),j<s.size->s.data.toList[j]?=some (s.get! j):=fun j hj=>by
  have ab:j<s.data.size:=hj
  rw [Array.getElem?_toList,Array.getElem?_eq_getElem ab]
  exact congrArg some (getElem!_pos s.data j ab).symm
 have e0:s.get! i=s[i]'hi:=by
  have ab:i<s.data.size:=hi
  exact getElem!_pos s.data i ab
 obtain ⟨h1,h2,h3,h4,h5⟩:=zjy (s.size-i) (s.get! i).toNat (s.get! (i+1)).toNat (s.get! (i+2)).toNat (s.get! (i+3)).toNat (by rw [e0];exact h) (UInt8.toNat_lt _)
 rw [<-Lib.decode_at] at h1 h2 h3 h4 h5
 have hw:i+(Utf8.decode s i).2<=s.size:=by
  have h9:=h5 ((Utf8.decode s i).2-1) (by omega)
  omega
 refine ⟨h1,h2,h3,h4,hw,fun j x hij hj hx=>?_⟩
 rw [hg j (by omega)] at hx
 cases hx
 have h9:=h5 (j-i) (by omega)
 rcases h9 with h9 | ⟨h9,_,aa⟩ | ⟨h9,_,aa⟩ | ⟨h9,_,aa⟩
 ·rw [show j=i by omega,e0]
  exact h
 ·rw [show j=i+1 by omega]
  exact aa
 ·rw [show j=i+2 by omega]
  exact aa
 ·rw [show j=i+3 by omega]
  exact aa
theorem zsE (a b:UInt8):(⟨#[a,b]⟩:ByteArray)=⟨[a,b].toArray⟩:=rfl
theorem zsF (a b c:UInt8):(⟨#[a,b,c]⟩:ByteArray)=⟨[a,b,c].toArray⟩:=rfl
theorem zsG (a b c d:UInt8):(⟨#[a,b,c,d]⟩:ByteArray)=⟨[a,b,c,d].toArray⟩:=rfl
theorem zmf (c:Nat) (h:128<=c) (h2:c<=1114111) (h3:c<55296∨57344<=c) :
  ∃(n:Nat) (l:List UInt8),Utf8.encode (c:Int)=⟨l.toArray⟩/\l.length=n+1/\1<=n/\n<=3/\∀x∈l,128<=x.toNat:=by
 have hv:Utf8.valid (c:Int)=true:=by
  unfold Utf8.valid
  rw [Bool.or_eq_true,Zp,Zp,Zy,Zy,Zy,Zy]
  omega
 have hb:∀n:Nat,128<=n->n<256->128<=(UInt8.ofNat n).toNat:=fun n h1 h2=>by
  rw [UInt8.toNat_ofNat',Nat.mod_eq_of_lt h2]
  exact h1
 unfold Utf8.encode
 rw [hv]
 simp only [if_true,Int.toNat_natCast]
 have d1:=Nat.mod_lt c (show 0<64 by decide)
 have d2:=Nat.mod_lt (c / 64) (show 0<64 by decide)
 have d3:=Nat.mod_lt (c / 4096) (show 0<64 by decide)
 rw [if_neg (by omega)]
 split
 ·refine ⟨1,_,zsE _ _,rfl,by omega,by omega,fun x hx=>?_⟩
  simp only [Zx,List.not_mem_nil,or_false] at hx
  rcases hx with rfl | rfl <;> exact hb _ (by omega) (by omega)
 ·split
  ·refine ⟨2,_,zsF _ _ _,rfl,by omega,by omega,fun x hx=>?_⟩
   simp only [Zx,List.not_mem_nil,or_false] at hx
   rcases hx with rfl | rfl | rfl <;> exact hb _ (by omega) (by omega)
  ·refine ⟨3,_,zsG _ _ _ _,rfl,by omega,by omega,fun x hx=>?_⟩
   simp only [Zx,List.not_mem_nil,or_false] at hx
   rcases hx with rfl | rfl | rfl | rfl <;> exact hb _ (by omega) (by omega)
end Go.Proofs.YtbjgpbojjhldaaaGreatDoor
/- The library contracts that this claim uses besides,laid at its program by the kit (lay-shelf,lay-plain) and cut down to those. -/
namespace Go.Proofs
open Go.Shelf
end Go.Proofs
