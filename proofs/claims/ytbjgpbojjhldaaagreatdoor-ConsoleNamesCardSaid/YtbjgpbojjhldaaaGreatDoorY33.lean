/- float.List, Longest; console.look at floats. -/
import Derived.Test.YtbjgpbojjhldaaaGreatDoorY32
import Derived.Test.YtbjgpbojjhldaaaGreatDoorTie
set_option maxHeartbeats 16000000
namespace Go.Proofs.YtbjgpbojjhldaaaGreatDoor
set_option maxRecDepth 100000
open Go.RowKit Go.ChangeShapes Go.WideShapes Go.Joins
def FlsR (g:Gd) (f:Bool) (w:World) (e:Ending) (w':World):Prop:=∃A n c ys,e = .returned (.tuple #[.slice A n c,.int .i64 0])/\Vec shFl w' A n ys/\(ys.map (·.len)).Perm ((endsG g++picksG g).flatMap (floV f))/\n<=10000/\Ext w w'
theorem zik (b off c:Nat) (g:Gd) (hg:okG g) (sd:Int) (f:Bool) (hsd:(sd=0/\f=true)∨(sd=1/\f=false)) (w:World) (hv:GridAt w (some ⟨b,off,none⟩) g) :
  Calls Tryz.prog 149 #[gridV (some ⟨b,off,none⟩) c g,.int .i64 sd] w (FlsR g f w):=by
 have HS:=Za (fun w' (h:Ext w w')=>zim b off c g hg f w' (hv.ext h))
 have ad:=Za (fun w'=>za1 (some ⟨b,off,none⟩) c g hg w')
 have aj:=Za (Tb.new w (.int .i64 (g.w:Int)) (.int .i64 (g.h:Int)) (.slice (some ⟨b,off,none⟩) g.b.length c) 54)
 clear hv hg
 unfold gridV at HS ad ⊢
 rcases hsd with ⟨rfl,rfl⟩ | ⟨rfl,rfl⟩
 all_goals
  go_enter Tryz.func149,Tryz.ntmps149
  go_wp2_with (first
   | (go_at_call 59;((with_reducible refine (ad.out _).mono ?_);rintro e w1 ⟨rfl,ac⟩;have ae:=Za (show Ext w w1 from Zm zx ac);obtain ⟨⟨d0,d1,d2⟩, -⟩:=aj.out.ext ac;clear ac))
   | (go_at_call 188;((with_reducible refine (HS.out _ ae.out).mono ?_);rintro e w2 ⟨V,ys,rfl,ai,ag,af,ah⟩;obtain ⟨A2,c2,rfl,aa⟩:=zao ai;have ak:=Za (ae.out.trans ah);have ab:=Za (And.intro aa (And.intro ag af));clear ai ag af ah aa)))
  go_ret2
  exact ⟨A2,_,c2,ys,rfl,ab.out.1,ab.out.2.1,ab.out.2.2,ak.out⟩
theorem zkn {l:List Nat} {i n:Nat} (h:l[i]?=some n):maxN (l.take (i+1))=max (maxN (l.take i)) n:=by
 rw [List.take_add_one,h,maxN,maxN,Option.toList_some,List.foldl_append]
 rfl
theorem zpB {l:List Nat} {b:Nat} (h:∀n∈l,n<=b):maxN l<=b:=zbU l 0 b (ZK _) h
theorem zd1 (b off c:Nat) (g:Gd) (hg:okG g) (sd:Int) (f:Bool) (hsd:(sd=0/\f=true)∨(sd=1/\f=false)) (w:World) (hv:GridAt w (some ⟨b,off,none⟩) g) :
  Calls Tryz.prog 111 #[gridV (some ⟨b,off,none⟩) c g,.int .i64 sd] w fun e w'=>e = .returned (.tuple #[.int .i64 (longV g f:Int),.int .i64 0])/\Ext w w':=by
 have HS:=Za (fun w' (h:Ext w w')=>zik b off c g hg sd f hsd w' (hv.ext h))
 have ae:=Za (zmU hg f)
 have ad:=Za (zgC hg f)
 obtain ⟨M,hM⟩:∃M,longV g f=M:=⟨_,rfl⟩
 rw [hM] at ae ad ⊢
 clear hv hg hsd hM
 unfold gridV at HS ⊢
 go_enter Tryz.func111,Tryz.ntmps111
 go_wp2_with (go_at_call 149;((with_reducible refine (HS.out _ zx).mono ?_);rintro e w1 ⟨A,n,c1,ys,rfl,ah,hp1,hn1,ag⟩;have al:=Za (show Ext w w1 from Zm zx ag);have ab:=Za ah;have ak:=Za hp1;clear ah hp1 ag))
 have HM:=Za (show maxN (ys.map (·.len))=M by rw [ae.out];exact zkm ak.out)
 have aj:=Za (show ∀i,maxN ((ys.map (·.len)).take i)<=maxN (ys.map (·.len)) from fun i=>zpB fun x hx=>by
  have h9:∀(l:List Nat) (a x:Nat),x∈l->x<=l.foldl max a:=by
   intro l
   induction l with
   | nil=>intro a x hx;cases hx
   | cons y l ih =>
    intro a x hx
    have h8:∀(l:List Nat) (a:Nat),a<=l.foldl max a:=by
     intro l
     induction l with
     | nil=>intro a;exact Zb _
     | cons z l ih=>intro a;exact Zv (Nat.le_max_left a z) (ih _)
    rcases Zx.1 hx with rfl | h
    ·exact Zv (Nat.le_max_right a x) (h8 l _)
    ·exact ih _ _ h
  exact h9 _ _ _ (List.mem_of_mem_take hx))
 go_loopw [8,19] (fun u v wr=>∃i:Nat,u = .int .i64 (maxN ((ys.map (·.len)).take i):Nat)/\v = .int .i64 i/\i<=n/\Hid (Ext w1 wr)) (fun _ v _=>n-(intOf v).toNat)
 case atStart=>exact ⟨0,rfl,rfl,ZK _,Za (Ze _)⟩
 case round =>
  obtain ⟨i,rfl,rfl,hi,HE⟩:=hrel
  by_cases hin:i<n
  ·have ac:=Vec.ext ab.out HE.out
   obtain ⟨y,hy⟩:∃y,ys[i]?=some y:=⟨_,Zf (by rw [ab.out.1];exact hin)⟩
   obtain ⟨b2,off2,af,am, -⟩:=ac.2 (by omega)
   have HR:=Za (zhm (by rw [<-af];exact ac) hy)
   have c0:=HR.out 0 _ rfl
   have d1:=HR.out 1 _ rfl
   have d2:=HR.out 2 _ rfl
   have d3:=HR.out 3 _ rfl
   have d4:=HR.out 4 _ rfl
   simp only [Nat.add_zero] at c0
   have aa:=Za (show maxN ((ys.map (·.len)).take (i+1))=max (maxN ((ys.map (·.len)).take i)) y.len from zkn (by rw [List.getElem?_map,hy];rfl))
   have hle:=aj.out (i+1)
   have hMM:=HM.out
   have hBD:=ad.out
   rw [aa.out] at hle
   subst af
   clear ac hy am
   obtain ⟨a,ha⟩:∃a,maxN ((ys.map (·.len)).take i)=a:=⟨_,rfl⟩
   rw [ha] at hle aa ⊢
   obtain ⟨k,hk⟩:∃k,y.len=k:=⟨_,rfl⟩
   rw [hk] at hle aa d3
   have hmx:∀(ts:Array TypeId) (t:TypeId) (W:World),(Builtin.max_ ts t #[.int .i64 (a:Int),.int .i64 (k:Int)]).run Tryz.prog W = .ok (.int .i64 (max a k:Nat)) W:=fun ts t W=>by
    have h9:=zfC (P:=Tryz.prog) (w:=W) ts t (a:Int) (k:Int)
    have e:max (a:Int) (k:Int)=((max a k:Nat):Int):=by omega
    rw [e] at h9
    exact h9
   have q1:(i:Int)<(n:Int):=by omega
   have q2:(0:Int)<=(i:Int):=by omega
   have i4:=Zj ((i:Int)+1) (by omega)
   clear hk ha
   go_wp2_with fail
   exact ⟨⟨i+1,by rw [aa.out],by go_num,by omega,Za (HE.out.trans ((Ze _).alloc _))⟩,by simp [intOf];omega⟩
  ·obtain rfl:i=n:=by omega
   have ai:=Za (show maxN ((ys.map (·.len)).take i)=M by rw [Zs (by rw [List.length_map,ab.out.1];exact Zb _)];exact HM.out)
   rw [ai.out]
   go_wp2_with fail
   go_ret2
   exact ⟨rfl,al.out.trans (HE.out.trans zx)⟩
theorem zgE (S:Nat) (st:Cs) (g:Gd) (w:World) (hG:Glob w) (hs:StAt w S st) (hc:st.c=some g) :
  Calls Tryz.prog 65 #[.pointer (some ⟨S,0,none⟩),.string ⟨kFloats.toArray⟩] w (AnsR w (lookV st.c kFloats)):=by
 have HV:=Za (show lookV st.c kFloats=(listV [(longV g true:Int),(longV g false:Int)],0) by rw [hc,zbE,if_neg (by decide),if_neg (by decide),if_neg (by decide),if_pos rfl])
 have HGL:=Za hG
 obtain ⟨hlt, -, -,⟨p,hp,hh⟩⟩:=id hs
 rw [hc] at hh
 obtain ⟨G,b,off,c,rfl,hGS,hGl,hbS,hbl,g0,g1,g2,hcap,aa,hok, -⟩:=hh
 have ad:=Za (show ∀w',Ext w w'->Calls Tryz.prog 111 #[.agg #[.int .i64 g.w,.int .i64 g.h,.slice (some ⟨b,off,none⟩) g.b.length c],.int .i64 0] w' fun e w''=>e = .returned (.tuple #[.int .i64 (longV g true:Int),.int .i64 0])/\Ext w' w'' from fun w' h=>zd1 b off c g hok 0 true (.inl ⟨rfl,rfl⟩) w' (aa.ext h))
 have ae:=Za (show ∀w',Ext w w'->Calls Tryz.prog 111 #[.agg #[.int .i64 g.w,.int .i64 g.h,.slice (some ⟨b,off,none⟩) g.b.length c],.int .i64 1] w' fun e w''=>e = .returned (.tuple #[.int .i64 (longV g false:Int),.int .i64 0])/\Ext w' w'' from fun w' h=>zd1 b off c g hok 1 false (.inr ⟨rfl,rfl⟩) w' (aa.ext h))
 have HB:=Za (zfj hok)
 have ah:=Za (Tb.new w (.int .i64 (g.w:Int)) (.int .i64 (g.h:Int)) (.slice (some ⟨b,off,none⟩) g.b.length c) 54)
 obtain ⟨r0,ab⟩:∃t,(longV g true:Int)=t:=⟨_,rfl⟩
 obtain ⟨r1,ac⟩:∃t,(longV g false:Int)=t:=⟨_,rfl⟩
 rw [ab,ac] at HV HB
 rw [ab] at ad
 rw [ac] at ae
 clear hs hc aa hok ab ac hG
 go_enter Tryz.func65,Tryz.ntmps65
 go_wp2_with (first
  | (go_at_call 111;(first
   | ((with_reducible refine (ad.out _ zx).mono ?_);rintro e5 w5 ⟨rfl,hq5⟩;have HX5:=Za (show Ext w w5 from zx);obtain ⟨⟨d0,d1,d2⟩, -⟩:=ah.out.ext hq5;clear hq5)
   | ((with_reducible refine (ae.out _ HX5.out).mono ?_);rintro e7 w7 ⟨rfl,ag⟩;have af:=Za (HX5.out.trans ag);clear ag)))
  | (go_at_call 110;((with_reducible refine (zaE 2 _ _ [r0,r1] (by decide) HB.out _ (HGL.out.ext (af.out.trans zx)) ((zkk _ r0 r1 _).ext zx)).mono ?_);rintro e6 w6 ⟨rfl,hq6⟩;have HX6:=Za (af.out.trans (show Ext w7 w6 from zx));clear hq6)))
 go_ret2
 rw [HV.out]
 exact ⟨rfl,HX6.out.trans zx⟩
end Go.Proofs.YtbjgpbojjhldaaaGreatDoor
/- console.Run of any script. -/
namespace Go.Proofs.YtbjgpbojjhldaaaGreatDoor
set_option maxRecDepth 100000
theorem za0 (s:List UInt8) (hs:s.length<=1000000000) (w:World) (hG:Glob w) :
  Calls Tryz.prog 10 #[.string ⟨s.toArray⟩] w fun e w'=>e = .returned (.tuple #[.string ⟨(runV atoiO s).toArray⟩,.int .i64 (runE s)])/\Ext w w' :=
 zl5 (fun S st line w hl hg hst=>zo4 zgE S st line w hl hg hst) s hs w hG
end Go.Proofs.YtbjgpbojjhldaaaGreatDoor
/- alive,joined,answer,Number,large,Great. -/
namespace Go.Proofs.YtbjgpbojjhldaaaGreatDoor
set_option maxRecDepth 100000
open Go.RowKit
theorem zh7 (w:World) (hg:Glob w):Calls Tryz.prog 12 #[] w fun e w'=>e = .returned (.bool true)/\Ext w w':=by
 have HR:=Za (show ∀w',Glob w'->Calls Tryz.prog 10 #[.string ⟨#[115,116,105,116,99,104,101,115,32,49,49,52,48,10,103,97,117,103,101,32,50,50,32,49,48,48,48,32,51,48,32,49,48,48,48,10,115,116,105,116,99,104,101,115,32,49,49,52,48,10,119,111,114,100,115,32,107,51,32,121,111,32,107,102,50,10,116,119,105,108,108,32,49,32,50,32,50,10,104,97,110,103,115,10,99,108,111,116,104,10]⟩] w' fun e w''=>e = .returned (.tuple #[.string ⟨#[101,114,114,111,114,32,54,10,111,107,10,50,53,10,107,110,105,116,32,51,44,32,121,97,114,110,32,111,118,101,114,44,32,107,110,105,116,32,50,32,116,111,103,101,116,104,101,114,32,40,102,105,114,115,116,32,111,110,32,116,111,112,41,10,111,107,10,121,101,115,10,120,46,46,120,47,46,46,120,120,47,46,120,120,46,47,120,120,46,46,47,10]⟩,.int .i64 0])/\Ext w' w'' from fun w' h=>by
  have h9:=za0 scrB (by decide) w' h
  rw [zsr,zsB] at h9
  exact h9)
 have HL:=Za (show ∀w',Calls Tryz.prog 11 #[.string ⟨#[115,116,105,116,99,104,101,115,32,49,49,52,48,10,103,97,117,103,101,32,50,50,32,49,48,48,48,32,51,48,32,49,48,48,48,10,115,116,105,116,99,104,101,115,32,49,49,52,48,10,119,111,114,100,115,32,107,51,32,121,111,32,107,102,50,10,116,119,105,108,108,32,49,32,50,32,50,10,104,97,110,103,115,10,99,108,111,116,104,10]⟩] w' fun e w''=>e = .returned (.tuple #[.int .i64 7,.int .i64 0])/\Ext w' w'' from fun w'=>by
  have h9:=zbS scrB (by decide) w'
  rw [zsr,zsA] at h9
  exact h9)
 have HG:=Za hg
 clear hg
 go_enter Tryz.func12,Tryz.ntmps12
 go_wp2_with (first
  | (go_at_call 10;(refine (HR.out _ HG.out).mono ?_;rintro e w1 ⟨rfl,aa⟩;have ac:=Za aa;clear aa))
  | (go_at_call 11;(refine (HL.out _).mono ?_;rintro e w2 ⟨rfl,ab⟩;have ad:=Za (ac.out.trans ab);clear ab)))
 go_ret
 exact ⟨rfl,ad.out⟩
theorem znC (x y:List UInt8) (hx:(x++[10]).length<=1000000000) (hy:y.length<=1000000000) (he:runE (x++[10])=0) (hv:runV atoiO (x++[10])=y++[10]) (w:World) (hg:Glob w) :
  Calls Tryz.prog 9 #[.string ⟨x.toArray⟩,.string ⟨y.toArray⟩] w fun e w'=>e = .returned (.bool true)/\Ext w w':=by
 have HR:=Za (show ∀w',Glob w'->Calls Tryz.prog 10 #[.string ((⟨x.toArray⟩:ByteArray)++⟨#[10]⟩)] w' fun e w''=>e = .returned (.tuple #[.string ((⟨y.toArray⟩:ByteArray)++⟨#[10]⟩),.int .i64 0])/\Ext w' w'' from fun w' h=>by
  have h9:=za0 (x++[10]) hx w' h
  have e1:((⟨x.toArray⟩:ByteArray)++⟨#[10]⟩)=⟨(x++[10]).toArray⟩:=by apply ByteArray.ext;simp
  have e2:((⟨y.toArray⟩:ByteArray)++⟨#[10]⟩)=⟨(y++[10]).toArray⟩:=by apply ByteArray.ext;simp
  rw [e1,e2,<-he,<-hv]
  exact h9)
 have HG:=Za hg
 simp only [Zc,ZW] at hx
 have z1:¬9223372036854775807<x.length+1:=by omega
 have z2:¬9223372036854775807<y.length+1:=by omega
 clear hg he hv hx hy
 go_enter Tryz.func9,Tryz.ntmps9
 go_wp2_with (go_at_call 10;(refine (HR.out _ HG.out).mono ?_;rintro e w1 ⟨rfl,aa⟩;have ab:=Za aa;clear aa))
 go_ret
 exact ⟨rfl,ab.out⟩
end Go.Proofs.YtbjgpbojjhldaaaGreatDoor
/- The console's limits,commands and errors: the walk. -/
namespace Go.Proofs.YtbjgpbojjhldaaaGreatDoor
set_option maxRecDepth 100000
open Go.RowKit
def manyB (n:Nat):List UInt8:=List.replicate n 10
def longB:Nat->List UInt8
 | 0=>[]
 | n+1=>longB n++[119,111,114,100,115,32,107,107,107,107,107,107,107,107,107,107,107,107,107,107,107,107,107,107,107,107,107,107,107,107,107,107,107,107,107,107,107,107,107,107,107,107,107,107,107,107,107,107,107,107,107,107,107,107,107,107,107,107,107,107,107,107,107,107,107,107,107,107,107,107,107,107,107,107,107,107,107,107,107,107,107,107,107,107,107,107,107,107,107,107,107,107,107,107,107,107,107,107,107,107,107,107,107,107,107,107,107,107,107,107,10]
theorem zdx:∀n,(longB n).length=n*111:=by
 intro n
 induction n with
 | zero=>simp [longB]
 | succ n ih=>rw [longB,Zc,ih,Nat.add_mul,Nat.one_mul];rfl
theorem zre:runE (manyB 201)=4:=by decide +kernel
theorem zoz:runE (manyB 200)=0/\lnsN (manyB 200)=200:=by decide +kernel
theorem zrb:runE (longB 200)=4:=by rw [runE,if_pos (.inl (by rw [zdx];decide))]
theorem zpJ (w:World) (hg:Glob w):Calls Tryz.prog 10 #[.string ⟨#[115,97,116,105,110,32,53,32,50,10,99,108,111,116,104,10,102,97,99,116,111,114,10,102,108,111,97,116,115,10,114,101,112,101,97,116,10,104,97,110,103,115,10,115,97,116,105,110,32,53,32,53,10,99,108,111,116,104,10,116,119,105,108,108,32,48,32,49,32,49,10,104,97,110,103,115,10,114,101,112,101,97,116,10]⟩] w fun e w'=>e = .returned (.tuple #[.string ⟨#[111,107,10,46,46,46,120,46,47,46,120,46,46,46,47,46,46,46,46,120,47,46,46,120,46,46,47,120,46,46,46,46,47,10,53,32,53,10,52,32,52,10,53,32,50,32,49,10,121,101,115,10,101,114,114,111,114,32,50,10,46,46,46,120,46,47,46,120,46,46,46,47,46,46,46,46,120,47,46,46,120,46,46,47,120,46,46,46,46,47,10,111,107,10,110,111,10,50,32,48,32,49,10]⟩,.int .i64 0])/\Ext w w':=by
 have h9:=za0 [115,97,116,105,110,32,53,32,50,10,99,108,111,116,104,10,102,97,99,116,111,114,10,102,108,111,97,116,115,10,114,101,112,101,97,116,10,104,97,110,103,115,10,115,97,116,105,110,32,53,32,53,10,99,108,111,116,104,10,116,119,105,108,108,32,48,32,49,32,49,10,104,97,110,103,115,10,114,101,112,101,97,116,10] (by decide) w hg
 rw [show runE [115,97,116,105,110,32,53,32,50,10,99,108,111,116,104,10,102,97,99,116,111,114,10,102,108,111,97,116,115,10,114,101,112,101,97,116,10,104,97,110,103,115,10,115,97,116,105,110,32,53,32,53,10,99,108,111,116,104,10,116,119,105,108,108,32,48,32,49,32,49,10,104,97,110,103,115,10,114,101,112,101,97,116,10]=0 by decide +kernel,show runV atoiO [115,97,116,105,110,32,53,32,50,10,99,108,111,116,104,10,102,97,99,116,111,114,10,102,108,111,97,116,115,10,114,101,112,101,97,116,10,104,97,110,103,115,10,115,97,116,105,110,32,53,32,53,10,99,108,111,116,104,10,116,119,105,108,108,32,48,32,49,32,49,10,104,97,110,103,115,10,114,101,112,101,97,116,10]=[111,107,10,46,46,46,120,46,47,46,120,46,46,46,47,46,46,46,46,120,47,46,46,120,46,46,47,120,46,46,46,46,47,10,53,32,53,10,52,32,52,10,53,32,50,32,49,10,121,101,115,10,101,114,114,111,114,32,50,10,46,46,46,120,46,47,46,120,46,46,46,47,46,46,46,46,120,47,46,46,120,46,46,47,120,46,46,46,46,47,10,111,107,10,110,111,10,50,32,48,32,49,10] by decide +kernel] at h9
 exact h9
theorem zpK (w:World) (hg:Glob w):Calls Tryz.prog 10 #[.string ⟨#[103,97,117,103,101,32,50,48,32,49,48,48,48,32,50,56,32,49,48,48,48,10,102,105,116,32,52,53,48,48,32,56,32,50,10,114,111,119,115,32,49,50,53,10,103,97,117,103,101,32,48,32,48,32,48,32,48,10,115,116,105,116,99,104,101,115,32,49,48,48,48,10,115,116,105,116,99,104,101,115,32,45,49,10]⟩] w fun e w'=>e = .returned (.tuple #[.string ⟨#[111,107,10,57,48,10,52,10,101,114,114,111,114,32,56,10,50,48,10,101,114,114,111,114,32,50,10]⟩,.int .i64 0])/\Ext w w':=by
 have h9:=za0 [103,97,117,103,101,32,50,48,32,49,48,48,48,32,50,56,32,49,48,48,48,10,102,105,116,32,52,53,48,48,32,56,32,50,10,114,111,119,115,32,49,50,53,10,103,97,117,103,101,32,48,32,48,32,48,32,48,10,115,116,105,116,99,104,101,115,32,49,48,48,48,10,115,116,105,116,99,104,101,115,32,45,49,10] (by decide) w hg
 rw [show runE [103,97,117,103,101,32,50,48,32,49,48,48,48,32,50,56,32,49,48,48,48,10,102,105,116,32,52,53,48,48,32,56,32,50,10,114,111,119,115,32,49,50,53,10,103,97,117,103,101,32,48,32,48,32,48,32,48,10,115,116,105,116,99,104,101,115,32,49,48,48,48,10,115,116,105,116,99,104,101,115,32,45,49,10]=0 by decide +kernel,show runV atoiO [103,97,117,103,101,32,50,48,32,49,48,48,48,32,50,56,32,49,48,48,48,10,102,105,116,32,52,53,48,48,32,56,32,50,10,114,111,119,115,32,49,50,53,10,103,97,117,103,101,32,48,32,48,32,48,32,48,10,115,116,105,116,99,104,101,115,32,49,48,48,48,10,115,116,105,116,99,104,101,115,32,45,49,10]=[111,107,10,57,48,10,52,10,101,114,114,111,114,32,56,10,50,48,10,101,114,114,111,114,32,50,10] by decide +kernel] at h9
 exact h9
theorem zpL (w:World) (hg:Glob w):Calls Tryz.prog 10 #[.string ⟨#[]⟩] w fun e w'=>e = .returned (.tuple #[.string ⟨#[]⟩,.int .i64 0])/\Ext w w':=by
 have h9:=za0 [] (by decide) w hg
 rw [show runE []=0 by decide +kernel,show runV atoiO []=[] by decide +kernel] at h9
 exact h9
theorem zpM (w:World) (hg:Glob w):Calls Tryz.prog 10 #[.string ⟨#[99,108,111,116,104]⟩] w fun e w'=>e = .returned (.tuple #[.string ⟨#[]⟩,.int .i64 12])/\Ext w w':=by
 have h9:=za0 [99,108,111,116,104] (by decide) w hg
 rw [show runE [99,108,111,116,104]=12 by decide +kernel,show runV atoiO [99,108,111,116,104]=[] by decide +kernel] at h9
 exact h9
theorem zcv (w:World) (hg:Glob w):Calls Tryz.prog 3 #[] w fun e w'=>e = .returned (.bool true)/\Ext w w':=by
 have HG:=Za hg
 have HX:=Za (Ze w)
 have af:=Za (fun w' h=>zh7 w' h)
 have ac:=Za (show ∀w',Glob w'->Calls Tryz.prog 10 #[.string ⟨(manyB 201).toArray⟩] w' fun e w''=>(∃v,e = .returned (.tuple #[v,.int .i64 4]))/\Ext w' w'' from fun w' h=>by
  have h9:=za0 (manyB 201) (by decide) w' h
  rw [zre] at h9
  exact h9.mono fun _ _ ⟨a,b⟩=>⟨⟨_,a⟩,b⟩)
 have ab:=Za (show ∀w',Calls Tryz.prog 11 #[.string ⟨(manyB 200).toArray⟩] w' fun e w''=>e = .returned (.tuple #[.int .i64 200,.int .i64 0])/\Ext w' w'' from fun w'=>by
  have h9:=zbS (manyB 200) (by decide) w'
  rw [zoz.1,zoz.2] at h9
  exact h9)
 have ad:=Za (show ∀w',Calls Tryz.prog 11 #[.string ⟨(longB 200).toArray⟩] w' fun e w''=>(∃v,e = .returned (.tuple #[v,.int .i64 4]))/\Ext w' w'' from fun w'=>by
  have h9:=zbS (longB 200) (by rw [zdx];decide) w'
  rw [zrb] at h9
  exact h9.mono fun _ _ ⟨a,b⟩=>⟨⟨_,a⟩,b⟩)
 clear hg
 go_enter Tryz.func3,Tryz.ntmps3
 go_wp2_with (first
  | (go_at_call 9;(refine (znC _ _ (by decide) (by decide) (by decide +kernel) (by decide +kernel) _ (HG.out.ext (HX.out.trans zx))).mono ?_;rintro e w1 ⟨rfl,hq⟩;replace HX:=Za (HX.out.trans (Zm zx hq));clear hq))
  | (go_at_call 10;(first
   | (with_reducible refine (zpJ _ (HG.out.ext (HX.out.trans zx))).mono ?_)
   | (with_reducible refine (zpK _ (HG.out.ext (HX.out.trans zx))).mono ?_)
   | (with_reducible refine (zpL _ (HG.out.ext (HX.out.trans zx))).mono ?_)
   | (with_reducible refine (zpM _ (HG.out.ext (HX.out.trans zx))).mono ?_));rintro e w2 ⟨rfl,hq⟩;replace HX:=Za (HX.out.trans (Zm zx hq));clear hq))
 go_loopw [12,14] (fun u v wr=>∃i:Nat,u = .string ⟨(manyB i).toArray⟩/\v = .int .i64 i/\i<=201/\Hid (Ext w wr)) (fun _ v _=>201-(intOf v).toNat)
 case atStart=>exact ⟨0,rfl,rfl,ZK _,HX⟩
 case round =>
  clear HX
  obtain ⟨i,rfl,rfl,hi,HX⟩:=hrel
  by_cases hlt:i<201
  ·have hl:(manyB i).length<=201:=by rw [manyB,ZH];omega
   have HN:=Za (show manyB (i+1)=manyB i++[10] from List.replicate_succ')
   have q1:(i:Int)<201:=by omega
   have i1:=Zj ((i:Int)+1) (by omega)
   obtain ⟨a,ha⟩:∃a,manyB i=a:=⟨_,rfl⟩
   rw [ha] at hl HN ⊢
   have z1:¬9223372036854775807<a.length+1:=by omega
   clear ha
   go_wp2_with fail
   refine ⟨⟨i+1,?_,by go_num,by omega,HX⟩,by simp [intOf];omega⟩
   rw [HN.out]
   congr 1
  ·obtain rfl:i=201:=by omega
   go_wp2_with fail
   go_loopw [13,15] (fun u v wr=>∃i:Nat,u = .string ⟨(longB i).toArray⟩/\v = .int .i64 i/\i<=200/\Hid (Ext w wr)) (fun _ v _=>200-(intOf v).toNat)
   case atStart=>exact ⟨0,rfl,rfl,ZK _,HX⟩
   case round =>
    clear HX
    obtain ⟨i,rfl,rfl,hi,HX⟩:=hrel
    by_cases hlt:i<200
    ·have hl:(longB i).length<=100000:=by rw [zdx];omega
     have HN:=Za (show longB (i+1)=longB i++[119,111,114,100,115,32,107,107,107,107,107,107,107,107,107,107,107,107,107,107,107,107,107,107,107,107,107,107,107,107,107,107,107,107,107,107,107,107,107,107,107,107,107,107,107,107,107,107,107,107,107,107,107,107,107,107,107,107,107,107,107,107,107,107,107,107,107,107,107,107,107,107,107,107,107,107,107,107,107,107,107,107,107,107,107,107,107,107,107,107,107,107,107,107,107,107,107,107,107,107,107,107,107,107,107,107,107,107,107,107,10] from rfl)
     have q1:(i:Int)<200:=by omega
     have i1:=Zj ((i:Int)+1) (by omega)
     obtain ⟨a,ha⟩:∃a,longB i=a:=⟨_,rfl⟩
     rw [ha] at hl HN ⊢
     have z1:¬9223372036854775807<a.length+111:=by omega
     clear ha
     go_wp2_with fail
     refine ⟨⟨i+1,?_,by go_num,by omega,HX⟩,by simp [intOf];omega⟩
     rw [HN.out]
     congr 1
    ·obtain rfl:i=200:=by omega
     have ae:(manyB 201).length=201:=by rw [manyB,ZH]
     have aa:=zqn (manyB 201) 1 201
     rw [show ((manyB 201).drop 1).take (201-1)=manyB 200 from rfl] at aa
     obtain ⟨M,hM⟩:∃M,manyB 201=M:=⟨_,rfl⟩
     obtain ⟨M2,hM2⟩:∃M,manyB 200=M:=⟨_,rfl⟩
     obtain ⟨L,hL⟩:∃L,longB 200=L:=⟨_,rfl⟩
     rw [hM] at ac ae aa ⊢
     rw [hM2] at ab aa
     rw [hL] at ad ⊢
     have q2:(1:Int)<=(M.length:Int):=by omega
     clear hM hM2 hL
     go_wp2_with (first
      | (go_at_call 10;((with_reducible refine (ac.out _ (HG.out.ext HX.out)).mono ?_);rintro e w3 ⟨⟨v3,rfl⟩,hq⟩;replace HX:=Za (HX.out.trans (Zm zx hq));clear hq))
      | (go_at_call 11;(first
       | ((with_reducible refine (ad.out _).mono ?_);rintro e w5 ⟨⟨v5,rfl⟩,hq⟩;replace HX:=Za (HX.out.trans (Zm zx hq));clear hq)
       | (rw [ae];(with_reducible refine (ab.out _).mono ?_);rintro e w4 ⟨rfl,hq⟩;replace HX:=Za (HX.out.trans (Zm zx hq));clear hq)
       | ((with_reducible refine (ab.out _).mono ?_);rintro e w4 ⟨rfl,hq⟩;replace HX:=Za (HX.out.trans (Zm zx hq));clear hq)))
      | (go_at_call 12;((with_reducible refine (af.out _ (HG.out.ext HX.out)).mono ?_);rintro e w6 ⟨rfl,hq⟩;replace HX:=Za (HX.out.trans (Zm zx hq));clear hq)))
     go_ret
     exact ⟨rfl,HX.out⟩
end Go.Proofs.YtbjgpbojjhldaaaGreatDoor
/- What the rows' listed variables give. -/
namespace Go.Proofs.YtbjgpbojjhldaaaGreatDoor
set_option maxRecDepth 100000
open Go.ChangeShapes Go.WideShapes Go.ChangeAt Go.RowKit
theorem zhX : "*" ++ "errors.errorString" = "*errors.errorString" := by decide
theorem zkW (u:TypeId) (h:Tryz.prog.typeName? 3 u=some "*errors.errorString"):u=311 :=
 typeName_ptr_named (nm := "errors.errorString") (by rw [zhX];kernel_rfl) (by kernel_rfl) (by decide) u (by rw [zhX];exact h)
theorem zp1:Rows.laid_internal_strconv_uint64pow10 (H:=Unit)=Lib.tabData .u64 Lib.pow10Tab:=by rfl
theorem zpi {W:World} (hL:laidMet Tryz.prog [("math/bits.deBruijn32tab",Rows.laid_math_bits_deBruijn32tab),("math/bits.deBruijn64tab",Rows.laid_math_bits_deBruijn64tab),("internal/strconv.uint64pow10",Rows.laid_internal_strconv_uint64pow10),("unicode/utf8.acceptRanges",Rows.laid_unicode_utf8_acceptRanges),("strconv.ErrRange",Rows.laid_strconv_ErrRange),("strconv.ErrSyntax",Rows.laid_strconv_ErrSyntax),("unicode/utf8.first",Rows.laid_unicode_utf8_first)] W) (hsh:W.ShapedOpen Tryz.prog):Glob W:=by
 have h1:=laidMet.tail (laidMet.tail hL)
 have h2:=laidMet.tail (laidMet.tail h1)
 have h3:=laidMet.tail h2
 rw [zp1] at h1
 refine ⟨Lib.tabIs_of_head (g:=1) (t:=270) (e:=228) (n:=20) (by kernel_rfl) (by kernel_rfl) (by kernel_rfl) (by kernel_rfl) (by kernel_rfl) (by kernel_rfl) h1,?_,?_,Tryz.laysM146.s1_3 W hsh⟩
 ·obtain ⟨a,s,h, -⟩:=laid_sentinel (g:=2) (ti:=79) (tp:=311) (te:=313) (ts:=9) h3 (by kernel_rfl) (by kernel_rfl) Tryz.underlying79 zkW (by kernel_rfl) Tryz.underlying313 rfl rfl (by kernel_rfl) (by kernel_rfl) (by kernel_rfl)
  exact ⟨_,_,h⟩
 ·obtain ⟨a,s,h, -⟩:=laid_sentinel (g:=3) (ti:=79) (tp:=311) (te:=313) (ts:=9) h2 (by kernel_rfl) (by kernel_rfl) Tryz.underlying79 zkW (by kernel_rfl) Tryz.underlying313 rfl rfl (by kernel_rfl) (by kernel_rfl) (by kernel_rfl)
  exact ⟨_,_,h⟩
end Go.Proofs.YtbjgpbojjhldaaaGreatDoor
