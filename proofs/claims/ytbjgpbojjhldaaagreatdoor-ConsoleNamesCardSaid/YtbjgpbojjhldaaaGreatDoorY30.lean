/- console.do: the words of numbers. -/
import Derived.Test.YtbjgpbojjhldaaaGreatDoorY29
import Derived.RangeFuncNested
set_option maxHeartbeats 16000000
namespace Go.Proofs.YtbjgpbojjhldaaaGreatDoor
set_option maxRecDepth 100000
open Go.RowKit
def numsG (acc:List Int) (x:Option (List Int)):Option (List Int):=match x with
 | none=>none
 | some l=>some (acc++l)
theorem znb {acc:List Int} {p:List UInt8} {r:List (List UInt8)} (h:numC atoiO p=none):numsG acc (numsC atoiO (p::r))=none:=by
 rw [numsC,h];rfl
theorem zkx {acc:List Int} {p:List UInt8} {r:List (List UInt8)} {n:Int} (h:numC atoiO p=some n):numsG acc (numsC atoiO (p::r))=numsG (acc++[n]) (numsC atoiO r):=by
 rw [numsC,h]
 cases numsC atoiO r with
 | none=>rfl
 | some l=>simp [numsG]
theorem zkw (acc:List Int):numsG acc (numsC atoiO [])=some acc:=by simp [numsG,numsC]
theorem zpP {p:List UInt8} {n:Int} (h:numC atoiO p=some n) : -9999999<=n/\n<=9999999:=by
 unfold numC at h
 split at h
 ·split at h
  ·rename_i h2
   cases h
   exact ⟨h2.1,h2.2.1⟩
  ·cases h
 ·cases h
theorem zd4 (n:Nat):kindC kGauge n=if n=4 then 0 else 3:=by
 unfold kindC
 simp [show ¬kGauge=kStitches by decide,show ¬kGauge=kRows by decide,show ¬kGauge=kFit by decide,show ¬kGauge=kLine by decide,show ¬kGauge=kSpread by decide,show ¬kGauge=kShort by decide,show ¬kGauge=kJoin by decide,show ¬kGauge=kTwill by decide,show ¬kGauge=kSatin by decide]
theorem zcf (n:Nat):kindC kStitches n=if n=1 then 0 else 3:=by
 unfold kindC
 simp [show ¬kStitches=kGauge by decide,show ¬kStitches=kRows by decide,show ¬kStitches=kFit by decide,show ¬kStitches=kLine by decide,show ¬kStitches=kSpread by decide,show ¬kStitches=kShort by decide,show ¬kStitches=kJoin by decide,show ¬kStitches=kTwill by decide,show ¬kStitches=kSatin by decide]
theorem zfr (n:Nat):kindC kRows n=if n=1 then 0 else 3:=by
 unfold kindC
 simp [show ¬kRows=kGauge by decide,show ¬kRows=kStitches by decide,show ¬kRows=kFit by decide,show ¬kRows=kLine by decide,show ¬kRows=kSpread by decide,show ¬kRows=kShort by decide,show ¬kRows=kJoin by decide,show ¬kRows=kTwill by decide,show ¬kRows=kSatin by decide]
theorem zhy (n:Nat):kindC kFit n=if n=3 then 0 else 3:=by
 unfold kindC
 simp [show ¬kFit=kGauge by decide,show ¬kFit=kStitches by decide,show ¬kFit=kRows by decide,show ¬kFit=kLine by decide,show ¬kFit=kSpread by decide,show ¬kFit=kShort by decide,show ¬kFit=kJoin by decide,show ¬kFit=kTwill by decide,show ¬kFit=kSatin by decide]
theorem zfq (n:Nat):kindC kLine n=if n=3 then 1 else 3:=by
 unfold kindC
 simp [show ¬kLine=kGauge by decide,show ¬kLine=kStitches by decide,show ¬kLine=kRows by decide,show ¬kLine=kFit by decide,show ¬kLine=kSpread by decide,show ¬kLine=kShort by decide,show ¬kLine=kJoin by decide,show ¬kLine=kTwill by decide,show ¬kLine=kSatin by decide]
theorem zdv (n:Nat):kindC kSpread n=if n=2 then 1 else 3:=by
 unfold kindC
 simp [show ¬kSpread=kGauge by decide,show ¬kSpread=kStitches by decide,show ¬kSpread=kRows by decide,show ¬kSpread=kFit by decide,show ¬kSpread=kLine by decide,show ¬kSpread=kShort by decide,show ¬kSpread=kJoin by decide,show ¬kSpread=kTwill by decide,show ¬kSpread=kSatin by decide]
theorem zd7 (n:Nat):kindC kShort n=if n=2 then 1 else 3:=by
 unfold kindC
 simp [show ¬kShort=kGauge by decide,show ¬kShort=kStitches by decide,show ¬kShort=kRows by decide,show ¬kShort=kFit by decide,show ¬kShort=kLine by decide,show ¬kShort=kSpread by decide,show ¬kShort=kJoin by decide,show ¬kShort=kTwill by decide,show ¬kShort=kSatin by decide]
theorem zfp (n:Nat):kindC kJoin n=if n=2 then 1 else 3:=by
 unfold kindC
 simp [show ¬kJoin=kGauge by decide,show ¬kJoin=kStitches by decide,show ¬kJoin=kRows by decide,show ¬kJoin=kFit by decide,show ¬kJoin=kLine by decide,show ¬kJoin=kSpread by decide,show ¬kJoin=kShort by decide,show ¬kJoin=kTwill by decide,show ¬kJoin=kSatin by decide]
theorem zd8 (n:Nat):kindC kTwill n=if 2<=n then 2 else 3:=by
 unfold kindC
 simp [show ¬kTwill=kGauge by decide,show ¬kTwill=kStitches by decide,show ¬kTwill=kRows by decide,show ¬kTwill=kFit by decide,show ¬kTwill=kLine by decide,show ¬kTwill=kSpread by decide,show ¬kTwill=kShort by decide,show ¬kTwill=kJoin by decide,show ¬kTwill=kSatin by decide]
theorem zd6 (n:Nat):kindC kSatin n=if n=2 then 2 else 3:=by
 unfold kindC
 simp [show ¬kSatin=kGauge by decide,show ¬kSatin=kStitches by decide,show ¬kSatin=kRows by decide,show ¬kSatin=kFit by decide,show ¬kSatin=kLine by decide,show ¬kSatin=kSpread by decide,show ¬kSatin=kShort by decide,show ¬kSatin=kJoin by decide,show ¬kSatin=kTwill by decide]
theorem zd5 {a:List UInt8} (n:Nat) (h:a ∉ [kGauge,kStitches,kRows,kFit,kLine,kSpread,kShort,kJoin,kTwill,kSatin]):kindC a n=3:=by
 simp only [Zx,List.not_mem_nil,or_false,not_or] at h
 unfold kindC
 simp [h.1,h.2.1,h.2.2.1,h.2.2.2.1,h.2.2.2.2.1,h.2.2.2.2.2.1,h.2.2.2.2.2.2.1,h.2.2.2.2.2.2.2.1,h.2.2.2.2.2.2.2.2.1,h.2.2.2.2.2.2.2.2.2]
theorem zbh {st:Cs} {a:List UInt8} {l:List Int} (h:kindC a l.length=3):nmbV st a l=(st,([],12)):=by
 rw [nmbV,h];rfl
theorem zm5 {st:Cs} {a:List UInt8} {l:List Int} (h:kindC a l.length=0):nmbV st a l=measV st a l:=by rw [nmbV,if_pos h]
theorem zm6 {st:Cs} {a:List UInt8} {l:List Int} (h:kindC a l.length=1):nmbV st a l=(st,cntV_ a l):=by rw [nmbV,if_neg (by rw [h];decide),if_pos h]
theorem zri {st:Cs} {a:List UInt8} {l:List Int} (h:kindC a l.length=2):nmbV st a l=wevV st a l:=by rw [nmbV,if_neg (by rw [h];decide),if_neg (by rw [h];decide),if_pos h]
theorem zag {a b:List UInt8} (h:a≠b):(a==b)=false:=by simpa using h
theorem zdf (S c:Nat) (A:Option Addr) (st:Cs) (l:List Int) (w:World) (hg:Glob w) (hs:StAt w S st) (hl:Ints w A 1 l) :
  Calls Tryz.prog 68 #[.pointer (some ⟨S,0,none⟩),.string ⟨kStitches.toArray⟩,.slice A 1 c] w (CmdR w S (measV st kStitches l)):=by
 rcases hst:st.g with _ | ⟨ga,gb,gc,gd⟩
 ·exact zbT S 1 c 1 A st l w hs hst (by omega)
 ·exact zjr S 1 c A st l ga gb gc gd w hg hs hst hl rfl
theorem zgc (S c:Nat) (A:Option Addr) (st:Cs) (l:List Int) (w:World) (hg:Glob w) (hs:StAt w S st) (hl:Ints w A 1 l) :
  Calls Tryz.prog 68 #[.pointer (some ⟨S,0,none⟩),.string ⟨kRows.toArray⟩,.slice A 1 c] w (CmdR w S (measV st kRows l)):=by
 rcases hst:st.g with _ | ⟨ga,gb,gc,gd⟩
 ·exact zbT S 1 c 2 A st l w hs hst (by omega)
 ·exact zjq S 1 c A st l ga gb gc gd w hg hs hst hl rfl
theorem zif (S c:Nat) (A:Option Addr) (st:Cs) (l:List Int) (w:World) (hg:Glob w) (hs:StAt w S st) (hl:Ints w A 3 l) :
  Calls Tryz.prog 68 #[.pointer (some ⟨S,0,none⟩),.string ⟨kFit.toArray⟩,.slice A 3 c] w (CmdR w S (measV st kFit l)):=by
 rcases hst:st.g with _ | ⟨ga,gb,gc,gd⟩
 ·exact zbT S 3 c 3 A st l w hs hst (by omega)
 ·exact zjp S 3 c A st l ga gb gc gd w hg hs hst hl rfl
theorem zjn (S:Nat) (st:Cs) (line a t:List UInt8) (hcut:cutF 32 line=(a,t,false)) (hl:line.length<=1000000) (ha1:a ∉ [kWords,kCells,kShortest,kExpand]) (ha2:a ∉ [kCloth,kHangs,kFactor,kFloats,kRepeat]) (w:World) (hG:Glob w) (hs:StAt w S st) :
  Calls Tryz.prog 35 #[.pointer (some ⟨S,0,none⟩),.string ⟨line.toArray⟩] w (CmdR w S (doV atoiO st line)):=by
 have HS:=Za hs
 have HGL:=Za hG
 have hv:doV atoiO st line=nmbV st a []:=by rw [zbA hcut,if_neg ha1,if_neg ha2];rfl
 have HC:=Za (show ∀w',Glob w'->Calls Tryz.prog 34 #[.string ⟨line.toArray⟩,.string ⟨#[32]⟩] w' fun e w''=>e = .returned (.tuple #[.string ⟨a.toArray⟩,.string ⟨t.toArray⟩,.bool false])/\Ext w' w'' from fun w' h=>by have h9:=zah 32 line hl w' h;rw [hcut] at h9;exact h9)
 simp only [Zx,List.not_mem_nil,or_false,not_or] at ha1 ha2
 obtain ⟨n1,n2,n3,n4⟩:=ha1
 obtain ⟨n5,n6,n7,n8,n9⟩:=ha2
 clear hcut hs hG hl
 have m1:(a==[119,111,114,100,115])=false:=zag n1
 have m2:(a==[99,101,108,108,115])=false:=zag n2
 have m3:(a==[115,104,111,114,116,101,115,116])=false:=zag n3
 have m4:(a==[101,120,112,97,110,100])=false:=zag n4
 have m5:(a==[99,108,111,116,104])=false:=zag n5
 have m6:(a==[104,97,110,103,115])=false:=zag n6
 have m7:(a==[102,97,99,116,111,114])=false:=zag n7
 have m8:(a==[102,108,111,97,116,115])=false:=zag n8
 have m9:(a==[114,101,112,101,97,116])=false:=zag n9
 by_cases hin:a∈[kGauge,kStitches,kRows,kFit,kLine,kSpread,kShort,kJoin,kTwill,kSatin]
 ·have HV:=Za (hv.trans (zbh (by simp only [Zx,List.not_mem_nil,or_false] at hin;rcases hin with rfl | rfl | rfl | rfl | rfl | rfl | rfl | rfl | rfl | rfl <;> decide)))
  clear hv
  simp only [Zx,List.not_mem_nil,or_false] at hin
  rcases hin with rfl | rfl | rfl | rfl | rfl | rfl | rfl | rfl | rfl | rfl
  all_goals
   go_enter Tryz.func35,Tryz.ntmps35
   go_wp2_with (first
    | (go_at_call 34;((with_reducible refine (HC.out _ (HGL.out.ext zx)).mono ?_);rintro e5 w5 ⟨rfl,hq5⟩;have HX5:=Za (show Ext w w5 from zx);clear hq5)))
   go_ret2
   rw [HV.out]
   exact zac HS.out (HX5.out.trans zx) rfl
 ·have HV:=Za (hv.trans (zbh (zd5 _ hin)))
  clear hv
  simp only [Zx,List.not_mem_nil,or_false,not_or] at hin
  obtain ⟨o1,o2,o3,o4,o5,o6,o7,o8,o9,o10⟩:=hin
  have p1:(a==[103,97,117,103,101])=false:=zag o1
  have p2:(a==[115,116,105,116,99,104,101,115])=false:=zag o2
  have p3:(a==[114,111,119,115])=false:=zag o3
  have p4:(a==[102,105,116])=false:=zag o4
  have p5:(a==[108,105,110,101])=false:=zag o5
  have p6:(a==[115,112,114,101,97,100])=false:=zag o6
  have p7:(a==[115,104,111,114,116])=false:=zag o7
  have p8:(a==[106,111,105,110])=false:=zag o8
  have p9:(a==[116,119,105,108,108])=false:=zag o9
  have p10:(a==[115,97,116,105,110])=false:=zag o10
  go_enter Tryz.func35,Tryz.ntmps35
  go_wp2_with (first
   | (go_at_call 34;((with_reducible refine (HC.out _ (HGL.out.ext zx)).mono ?_);rintro e5 w5 ⟨rfl,hq5⟩;have HX5:=Za (show Ext w w5 from zx);clear hq5)))
  go_ret2
  rw [HV.out]
  exact zac HS.out (HX5.out.trans zx) rfl
end Go.Proofs.YtbjgpbojjhldaaaGreatDoor
/- console.do: the words of numbers,with numbers. -/
namespace Go.Proofs.YtbjgpbojjhldaaaGreatDoor
set_option maxRecDepth 100000
open Go.RowKit
theorem zrE (c:UInt8):∀s:List UInt8,(spl c s).length<=s.length+1/\∀w∈spl c s,w.length<=s.length:=by
 intro s
 induction s with
 | nil=>exact ⟨by simp [spl],fun w hw=>by simp [spl] at hw;subst hw;simp⟩
 | cons x l ih =>
  rw [spl]
  split
  ·refine ⟨by simp;omega,fun w hw=>?_⟩
   rcases Zx.1 hw with rfl | hw
   ·simp
   ·have:=ih.2 w hw
    simp only [Zk]
    omega
  ·split
   ·rename_i h t e
    rw [e] at ih
    refine ⟨by have:=ih.1;simp only [Zk] at this ⊢;omega,fun w hw=>?_⟩
    rcases Zx.1 hw with rfl | hw
    ·have:=ih.2 h (by simp)
     simp only [Zk]
     omega
    ·have:=ih.2 w (by simp [hw])
     simp only [Zk]
     omega
   ·exact ⟨by simp,fun w hw=>by simp at hw;subst hw;simp⟩
theorem znc {w:World} {B k c:Nat} {e:TypeId} {A:Option Addr} {L:List Int} (h:OwnI w B e (.slice A k c) k L):k<=c:=by
 rcases h.2 with ⟨h0,h1⟩ | ⟨g,cap,cur,h0,hB,hg,aa,r⟩
 ·omega
 ·cases h0
  exact aa
theorem zjo (S:Nat) (st:Cs) (line a t:List UInt8) (hcut:cutF 32 line=(a,t,true)) (ht:t.length<=20000) (hl:line.length<=1000000) (ha1:a ∉ [kWords,kCells,kShortest,kExpand]) (ha2:a ∉ [kCloth,kHangs,kFactor,kFloats,kRepeat]) (w:World) (hG:Glob w) (hs:StAt w S st) :
  Calls Tryz.prog 35 #[.pointer (some ⟨S,0,none⟩),.string ⟨line.toArray⟩] w (CmdR w S (doV atoiO st line)):=by
 have HS:=Za hs
 have HGL:=Za hG
 have hv:doV atoiO st line=match numsC atoiO (spl 32 t) with
   | none=>(st,([],12))
   | some l=>nmbV st a l:=by rw [zbA hcut,if_neg ha1,if_neg ha2];rfl
 obtain ⟨x0,ay⟩:∃x,numsC atoiO (spl 32 t)=x:=⟨_,rfl⟩
 have az:=Za (show numsG [] (numsC atoiO (spl 32 t))=x0 by rw [ay];cases x0 <;> rfl)
 rw [ay] at hv
 have ar:=Za (show x0=none->doV atoiO st line=(st,([],12)) from fun h=>by rw [hv,h])
 have au:=Za (show ∀l,x0=some l->doV atoiO st line=nmbV st a l from fun l h=>by rw [hv,h])
 obtain ⟨D,hD⟩:∃D,doV atoiO st line=D:=⟨_,rfl⟩
 rw [hD] at ar au ⊢
 have HC:=Za (show ∀w',Glob w'->Calls Tryz.prog 34 #[.string ⟨line.toArray⟩,.string ⟨#[32]⟩] w' fun e w''=>e = .returned (.tuple #[.string ⟨a.toArray⟩,.string ⟨t.toArray⟩,.bool true])/\Ext w' w'' from fun w' h=>by have h9:=zah 32 line hl w' h;rw [hcut] at h9;exact h9)
 have aA:=Za (fun w' h=>zcp t 32 (by omega) w' h)
 have av:=Za (zrE 32 t)
 simp only [Zx,List.not_mem_nil,or_false,not_or] at ha1 ha2
 obtain ⟨n1,n2,n3,n4⟩:=ha1
 obtain ⟨n5,n6,n7,n8,n9⟩:=ha2
 clear hcut hs hG hl hv ay hD
 have m1:(a==[119,111,114,100,115])=false:=zag n1
 have m2:(a==[99,101,108,108,115])=false:=zag n2
 have m3:(a==[115,104,111,114,116,101,115,116])=false:=zag n3
 have m4:(a==[101,120,112,97,110,100])=false:=zag n4
 have m5:(a==[99,108,111,116,104])=false:=zag n5
 have m6:(a==[104,97,110,103,115])=false:=zag n6
 have m7:(a==[102,97,99,116,111,114])=false:=zag n7
 have m8:(a==[102,108,111,97,116,115])=false:=zag n8
 have m9:(a==[114,101,112,101,97,116])=false:=zag n9
 go_enter Tryz.func35,Tryz.ntmps35
 go_wp2_with (first
  | (go_at_call 34;((with_reducible refine (HC.out _ (HGL.out.ext zx)).mono ?_);rintro e5 w5 ⟨rfl,hq5⟩;have HX5:=Za (show Ext w w5 from zx);clear hq5))
  | (go_at_call 66;((with_reducible refine (aA.out _ (HGL.out.ext (HX5.out.trans zx))).mono ?_);rintro e w1 ⟨g,m,rfl,aH,ax⟩)))
 have aD:=Za (HX5.out.trans (show Ext w5 w1 from zx))
 have hm:=ax.1
 have HV:=Za ax
 have hm2:m<=20001:=by rw [<-hm];have:=av.out.1;omega
 clear ax aA hm HC aH
 go_loopw [9,50] (fun u i wr=>∃(V:Value) (k:Nat) (acc:List Int),V=u/\i = .int .i64 k/\k<=m/\acc.length=k/\Hid (OwnI wr w1.heap.size 3 V k acc)/\Hid (Ext w1 wr)/\Hid (numsG acc (numsC atoiO ((spl 32 t).drop k))=x0)/\Hid (∀x∈acc, -9999999<=x/\x<=9999999)) (fun _ i _=>m-(intOf i).toNat)
 case atStart=>exact ⟨_,0,[],rfl,rfl,ZK _,rfl,Za (OwnI.nil _ _ _),Za (Ze _),az,Za (by simp)⟩
 case round =>
  obtain ⟨V,k,acc,rfl,rfl,hk,ai,HO,HE,ao,HB⟩:=hrel
  have ab:=Za (aD.out.trans HE.out)
  by_cases hlt:k<m
  ·have ak:=zcr (HV.out.ext HE.out) hlt
   have aF:=HV.out.1
   obtain ⟨p,hp⟩:∃p,(spl 32 t).getD k []=p:=⟨_,rfl⟩
   rw [hp] at ak
   have HD:=Za (show (spl 32 t).drop k=p::(spl 32 t).drop (k+1) by
    rw [ZL (by omega),<-hp,Zd,Zf (by omega)]
    rfl)
   have aG:p.length<=1000000:=by
    have h9:=av.out.2 p (by rw [<-hp,Zd,Zf (by omega)];exact List.getElem_mem _)
    omega
   have aj:=Za (fun W hg'=>zjt p aG W hg')
   have q2:(k:Int)<(m:Int):=by omega
   have q0:(0:Int)<=(k:Int):=by omega
   obtain ⟨A,c,rfl,aJ⟩:=zaB HO.out
   have HL:=Za ai
   clear hp aF aJ ai
   cases hr:numC atoiO p with
   | none =>
    have aE:=Za (ar.out (show x0=none by
     have h9:=ao.out
     rw [HD.out,znb hr] at h9
     exact h9.symm))
    rw [hr] at aj
    go_wp2_with (go_at_call 67;((with_reducible refine (aj.out _ (HGL.out.ext (ab.out.trans zx))).mono ?_);rintro e w3 ⟨v3,rfl, -,aI⟩))
    go_ret2
    rw [aE.out]
    exact zac HS.out (ab.out.trans zx) rfl
   | some n =>
    have aC:=Za (zpP hr)
    have ap:=Za (show numsG (acc++[n]) (numsC atoiO ((spl 32 t).drop (k+1)))=x0 by
     have h9:=ao.out
     rwa [HD.out,zkx hr] at h9)
    rw [hr] at aj
    have aq:=Za (show ∀W,Glob W->Calls Tryz.prog 67 #[.string ⟨p.toArray⟩] W (fun e w'=>e = .returned (.tuple #[.int .i64 n,.bool true])/\Ext W w') from fun W hg'=>(aj.out W hg').mono (by rintro e w' ⟨v,he,h1,hq⟩;obtain rfl:=h1 n rfl;exact ⟨he,hq⟩))
    clear aj
    go_wp2_with (first
     | (go_at_call 67;((with_reducible refine (aq.out _ (HGL.out.ext (ab.out.trans zx))).mono ?_);rintro e w3 ⟨rfl,aI⟩))
     | (at_builtin;(refine zax (w:=w1) 51 3 _ n (by rfl) (by rfl) Tryz.underlying51 zaJ (by rfl) (by rfl) (by exact HO.out.extH zx) (HE.out.trans zx) (by simp [go_sem]) (by omega) ?_;intro v' w6 am al)))
    go_roundw
    case rel=>exact ⟨v',k+1,acc++[n],rfl,by go_num,by omega,by have:=HL.out;simp;omega,Za am,al,ap,Za (fun x hx=>by rcases ZQ.1 hx with h | h;exact HB.out x h;(have:x=n:=by simpa using h);subst this;exact aC.out)⟩
    case measure=>simp [intOf];omega
  ·obtain rfl:k=m:=by omega
   have af:=Za (au.out acc (by
    have h9:=ao.out
    rw [ZE (by have:=HV.out.1;omega),zkw] at h9
    exact h9.symm))
   obtain ⟨A1,c1,rfl,aB⟩:=zaB HO.out
   have aw:=znc HO.out
   have ah:=Za aB
   have HL:=Za ai
   have hlt:=HS.out.lt
   clear aB ai hk HV ao az ar au av
   by_cases hin:a∈[kGauge,kStitches,kRows,kFit,kLine,kSpread,kShort,kJoin,kTwill,kSatin]
   ·simp only [Zx,List.not_mem_nil,or_false] at hin
    rcases hin with rfl | rfl | rfl | rfl | rfl | rfl | rfl | rfl | rfl | rfl
    ·by_cases h2:k=4
     ·subst h2
      have ac:=Za (af.out.trans (zm5 (by rw [zd4,HL.out,if_pos rfl])))
      have HW:=Za (show ∀W,Glob W->StAt W S st->Ints W A1 4 acc->Calls Tryz.prog 68 #[.pointer (some ⟨S,0,none⟩),.string ⟨#[103,97,117,103,101]⟩,.slice A1 4 c1] W (CmdR W S (measV st kGauge acc)) from fun W hG hS hI=>zfa S c1 A1 st acc W hS hI)
      go_wp2_with (first
       | (go_at_call 68;((with_reducible refine (HW.out _ (HGL.out.ext (ab.out.trans zx)) (HS.out.ext (ab.out.trans zx)) (ah.out.ext zx)).mono ?_);rintro e6 w6 ⟨rfl,ad,aa⟩;have ae:=Za ad;have ag:=Za (But.trans (But.of_ext (ab.out.trans zx) (some S)) aa);clear ad aa)))
      go_ret2
      rw [ac.out]
      exact ⟨rfl,ae.out,ag.out⟩
     ·have ac:=Za (af.out.trans (zbh (by rw [zd4,HL.out,if_neg h2])))
      have q8:¬(k:Int)=4:=by omega
      have q9:((k:Int)==4)=false:=by simpa using q8
      go_wp2_with fail
      go_ret2
      rw [ac.out]
      exact zac HS.out (ab.out.trans zx) rfl
    ·by_cases h2:k=1
     ·subst h2
      have ac:=Za (af.out.trans (zm5 (by rw [zcf,HL.out,if_pos rfl])))
      have HW:=Za (show ∀W,Glob W->StAt W S st->Ints W A1 1 acc->Calls Tryz.prog 68 #[.pointer (some ⟨S,0,none⟩),.string ⟨#[115,116,105,116,99,104,101,115]⟩,.slice A1 1 c1] W (CmdR W S (measV st kStitches acc)) from fun W hG hS hI=>zdf S c1 A1 st acc W hG hS hI)
      go_wp2_with (first
       | (go_at_call 68;((with_reducible refine (HW.out _ (HGL.out.ext (ab.out.trans zx)) (HS.out.ext (ab.out.trans zx)) (ah.out.ext zx)).mono ?_);rintro e6 w6 ⟨rfl,ad,aa⟩;have ae:=Za ad;have ag:=Za (But.trans (But.of_ext (ab.out.trans zx) (some S)) aa);clear ad aa)))
      go_ret2
      rw [ac.out]
      exact ⟨rfl,ae.out,ag.out⟩
     ·have ac:=Za (af.out.trans (zbh (by rw [zcf,HL.out,if_neg h2])))
      have q8:¬(k:Int)=1:=by omega
      have q9:((k:Int)==1)=false:=by simpa using q8
      go_wp2_with fail
      go_ret2
      rw [ac.out]
      exact zac HS.out (ab.out.trans zx) rfl
    ·by_cases h2:k=1
     ·subst h2
      have ac:=Za (af.out.trans (zm5 (by rw [zfr,HL.out,if_pos rfl])))
      have HW:=Za (show ∀W,Glob W->StAt W S st->Ints W A1 1 acc->Calls Tryz.prog 68 #[.pointer (some ⟨S,0,none⟩),.string ⟨#[114,111,119,115]⟩,.slice A1 1 c1] W (CmdR W S (measV st kRows acc)) from fun W hG hS hI=>zgc S c1 A1 st acc W hG hS hI)
      go_wp2_with (first
       | (go_at_call 68;((with_reducible refine (HW.out _ (HGL.out.ext (ab.out.trans zx)) (HS.out.ext (ab.out.trans zx)) (ah.out.ext zx)).mono ?_);rintro e6 w6 ⟨rfl,ad,aa⟩;have ae:=Za ad;have ag:=Za (But.trans (But.of_ext (ab.out.trans zx) (some S)) aa);clear ad aa)))
      go_ret2
      rw [ac.out]
      exact ⟨rfl,ae.out,ag.out⟩
     ·have ac:=Za (af.out.trans (zbh (by rw [zfr,HL.out,if_neg h2])))
      have q8:¬(k:Int)=1:=by omega
      have q9:((k:Int)==1)=false:=by simpa using q8
      go_wp2_with fail
      go_ret2
      rw [ac.out]
      exact zac HS.out (ab.out.trans zx) rfl
    ·by_cases h2:k=3
     ·subst h2
      have ac:=Za (af.out.trans (zm5 (by rw [zhy,HL.out,if_pos rfl])))
      have HW:=Za (show ∀W,Glob W->StAt W S st->Ints W A1 3 acc->Calls Tryz.prog 68 #[.pointer (some ⟨S,0,none⟩),.string ⟨#[102,105,116]⟩,.slice A1 3 c1] W (CmdR W S (measV st kFit acc)) from fun W hG hS hI=>zif S c1 A1 st acc W hG hS hI)
      go_wp2_with (first
       | (go_at_call 68;((with_reducible refine (HW.out _ (HGL.out.ext (ab.out.trans zx)) (HS.out.ext (ab.out.trans zx)) (ah.out.ext zx)).mono ?_);rintro e6 w6 ⟨rfl,ad,aa⟩;have ae:=Za ad;have ag:=Za (But.trans (But.of_ext (ab.out.trans zx) (some S)) aa);clear ad aa)))
      go_ret2
      rw [ac.out]
      exact ⟨rfl,ae.out,ag.out⟩
     ·have ac:=Za (af.out.trans (zbh (by rw [zhy,HL.out,if_neg h2])))
      have q8:¬(k:Int)=3:=by omega
      have q9:((k:Int)==3)=false:=by simpa using q8
      go_wp2_with fail
      go_ret2
      rw [ac.out]
      exact zac HS.out (ab.out.trans zx) rfl
    ·by_cases h2:k=3
     ·subst h2
      have ac:=Za (af.out.trans (zm6 (by rw [zfq,HL.out,if_pos rfl])))
      have HW:=Za (show ∀W,Glob W->StAt W S st->Ints W A1 3 acc->Calls Tryz.prog 69 #[.string ⟨#[108,105,110,101]⟩,.slice A1 3 c1] W (AnsR W (cntV_ kLine acc)) from fun W hG hS hI=>zh9 3 c1 A1 acc W hG hI rfl)
      go_wp2_with (first
       | (go_at_call 69;((with_reducible refine (HW.out _ (HGL.out.ext (ab.out.trans zx)) (HS.out.ext (ab.out.trans zx)) (ah.out.ext zx)).mono ?_);rintro e6 w6 ⟨rfl,hq6⟩;have HX6:=Za (ab.out.trans (show Ext wr w6 from zx));clear hq6)))
      go_ret2
      rw [ac.out]
      exact zac HS.out (HX6.out.trans zx) rfl
     ·have ac:=Za (af.out.trans (zbh (by rw [zfq,HL.out,if_neg h2])))
      have q8:¬(k:Int)=3:=by omega
      have q9:((k:Int)==3)=false:=by simpa using q8
      go_wp2_with fail
      go_ret2
      rw [ac.out]
      exact zac HS.out (ab.out.trans zx) rfl
    ·by_cases h2:k=2
     ·subst h2
      have ac:=Za (af.out.trans (zm6 (by rw [zdv,HL.out,if_pos rfl])))
      have HW:=Za (show ∀W,Glob W->StAt W S st->Ints W A1 2 acc->Calls Tryz.prog 69 #[.string ⟨#[115,112,114,101,97,100]⟩,.slice A1 2 c1] W (AnsR W (cntV_ kSpread acc)) from fun W hG hS hI=>ze9 2 c1 A1 acc W hG hI rfl)
      go_wp2_with (first
       | (go_at_call 69;((with_reducible refine (HW.out _ (HGL.out.ext (ab.out.trans zx)) (HS.out.ext (ab.out.trans zx)) (ah.out.ext zx)).mono ?_);rintro e6 w6 ⟨rfl,hq6⟩;have HX6:=Za (ab.out.trans (show Ext wr w6 from zx));clear hq6)))
      go_ret2
      rw [ac.out]
      exact zac HS.out (HX6.out.trans zx) rfl
     ·have ac:=Za (af.out.trans (zbh (by rw [zdv,HL.out,if_neg h2])))
      have q8:¬(k:Int)=2:=by omega
      have q9:((k:Int)==2)=false:=by simpa using q8
      go_wp2_with fail
      go_ret2
      rw [ac.out]
      exact zac HS.out (ab.out.trans zx) rfl
    ·by_cases h2:k=2
     ·subst h2
      have ac:=Za (af.out.trans (zm6 (by rw [zd7,HL.out,if_pos rfl])))
      have HW:=Za (show ∀W,Glob W->StAt W S st->Ints W A1 2 acc->Calls Tryz.prog 69 #[.string ⟨#[115,104,111,114,116]⟩,.slice A1 2 c1] W (AnsR W (cntV_ kShort acc)) from fun W hG hS hI=>zf8 2 c1 A1 acc HB.out W hG hI rfl)
      go_wp2_with (first
       | (go_at_call 69;((with_reducible refine (HW.out _ (HGL.out.ext (ab.out.trans zx)) (HS.out.ext (ab.out.trans zx)) (ah.out.ext zx)).mono ?_);rintro e6 w6 ⟨rfl,hq6⟩;have HX6:=Za (ab.out.trans (show Ext wr w6 from zx));clear hq6)))
      go_ret2
      rw [ac.out]
      exact zac HS.out (HX6.out.trans zx) rfl
     ·have ac:=Za (af.out.trans (zbh (by rw [zd7,HL.out,if_neg h2])))
      have q8:¬(k:Int)=2:=by omega
      have q9:((k:Int)==2)=false:=by simpa using q8
      go_wp2_with fail
      go_ret2
      rw [ac.out]
      exact zac HS.out (ab.out.trans zx) rfl
    ·by_cases h2:k=2
     ·subst h2
      have ac:=Za (af.out.trans (zm6 (by rw [zfp,HL.out,if_pos rfl])))
      have HW:=Za (show ∀W,Glob W->StAt W S st->Ints W A1 2 acc->Calls Tryz.prog 69 #[.string ⟨#[106,111,105,110]⟩,.slice A1 2 c1] W (AnsR W (cntV_ kJoin acc)) from fun W hG hS hI=>zh8 2 c1 A1 acc W hG hI rfl)
      go_wp2_with (first
       | (go_at_call 69;((with_reducible refine (HW.out _ (HGL.out.ext (ab.out.trans zx)) (HS.out.ext (ab.out.trans zx)) (ah.out.ext zx)).mono ?_);rintro e6 w6 ⟨rfl,hq6⟩;have HX6:=Za (ab.out.trans (show Ext wr w6 from zx));clear hq6)))
      go_ret2
      rw [ac.out]
      exact zac HS.out (HX6.out.trans zx) rfl
     ·have ac:=Za (af.out.trans (zbh (by rw [zfp,HL.out,if_neg h2])))
      have q8:¬(k:Int)=2:=by omega
      have q9:((k:Int)==2)=false:=by simpa using q8
      go_wp2_with fail
      go_ret2
      rw [ac.out]
      exact zac HS.out (ab.out.trans zx) rfl
    ·by_cases h2:2<=k
     ·have ac:=Za (af.out.trans (zri (by rw [zd8,HL.out,if_pos h2])))
      have q8:(2:Int)<=(k:Int):=by omega
      have HW:=Za (show ∀W,Glob W->StAt W S st->Ints W A1 k acc->Calls Tryz.prog 70 #[.pointer (some ⟨S,0,none⟩),.string ⟨#[116,119,105,108,108]⟩,.slice A1 k c1] W (CmdR W S (wevV st kTwill acc)) from fun W hG hS hI=>zge S k c1 A1 st acc W hS hI h2 (by omega) aw)
      go_wp2_with (first
       | (go_at_call 70;((with_reducible refine (HW.out _ (HGL.out.ext (ab.out.trans zx)) (HS.out.ext (ab.out.trans zx)) (ah.out.ext zx)).mono ?_);rintro e6 w6 ⟨rfl,ad,aa⟩;have ae:=Za ad;have ag:=Za (But.trans (But.of_ext (ab.out.trans zx) (some S)) aa);clear ad aa)))
      go_ret2
      rw [ac.out]
      exact ⟨rfl,ae.out,ag.out⟩
     ·have ac:=Za (af.out.trans (zbh (by rw [zd8,HL.out,if_neg h2])))
      have q8:¬(2:Int)<=(k:Int):=by omega
      go_wp2_with fail
      go_ret2
      rw [ac.out]
      exact zac HS.out (ab.out.trans zx) rfl
    ·by_cases h2:k=2
     ·subst h2
      have ac:=Za (af.out.trans (zri (by rw [zd6,HL.out,if_pos rfl])))
      have HW:=Za (show ∀W,Glob W->StAt W S st->Ints W A1 2 acc->Calls Tryz.prog 70 #[.pointer (some ⟨S,0,none⟩),.string ⟨#[115,97,116,105,110]⟩,.slice A1 2 c1] W (CmdR W S (wevV st kSatin acc)) from fun W hG hS hI=>zgd S 2 c1 A1 st acc W hS HB.out hI rfl)
      go_wp2_with (first
       | (go_at_call 70;((with_reducible refine (HW.out _ (HGL.out.ext (ab.out.trans zx)) (HS.out.ext (ab.out.trans zx)) (ah.out.ext zx)).mono ?_);rintro e6 w6 ⟨rfl,ad,aa⟩;have ae:=Za ad;have ag:=Za (But.trans (But.of_ext (ab.out.trans zx) (some S)) aa);clear ad aa)))
      go_ret2
      rw [ac.out]
      exact ⟨rfl,ae.out,ag.out⟩
     ·have ac:=Za (af.out.trans (zbh (by rw [zd6,HL.out,if_neg h2])))
      have q8:¬(k:Int)=2:=by omega
      have q9:((k:Int)==2)=false:=by simpa using q8
      go_wp2_with fail
      go_ret2
      rw [ac.out]
      exact zac HS.out (ab.out.trans zx) rfl
   ·have ac:=Za (af.out.trans (zbh (zd5 _ hin)))
    simp only [Zx,List.not_mem_nil,or_false,not_or] at hin
    obtain ⟨o1,o2,o3,o4,o5,o6,o7,o8,o9,o10⟩:=hin
    have p1:(a==[103,97,117,103,101])=false:=zag o1
    have p2:(a==[115,116,105,116,99,104,101,115])=false:=zag o2
    have p3:(a==[114,111,119,115])=false:=zag o3
    have p4:(a==[102,105,116])=false:=zag o4
    have p5:(a==[108,105,110,101])=false:=zag o5
    have p6:(a==[115,112,114,101,97,100])=false:=zag o6
    have p7:(a==[115,104,111,114,116])=false:=zag o7
    have p8:(a==[106,111,105,110])=false:=zag o8
    have p9:(a==[116,119,105,108,108])=false:=zag o9
    have p10:(a==[115,97,116,105,110])=false:=zag o10
    go_wp2_with fail
    go_ret2
    rw [ac.out]
    exact zac HS.out (ab.out.trans zx) rfl
end Go.Proofs.YtbjgpbojjhldaaaGreatDoor
/- console.do,joined over the commands. -/
namespace Go.Proofs.YtbjgpbojjhldaaaGreatDoor
set_option maxRecDepth 100000
open Go.RowKit
theorem zjw (c:UInt8):∀l:List UInt8,(cutF c l).1.length<=l.length/\(cutF c l).2.1.length<=l.length
 | []=>by simp [cutF]
 | x::l=>by
  have ih:=zjw c l
  rw [cutF]
  split
  ·simp
  ·simp only [Zk]
   omega
theorem zqQ (k:Nat) (h:k<=9999999):atoiO (decD k)=some (k:Int):=by
 have h1:=zsC (k:Int) (by omega) (by omega)
 rwa [itoaZ,if_neg (by omega),Int.toNat_natCast] at h1
theorem zo4 (hfl:∀(S:Nat) (st:Cs) (g:Gd) (w:World),Glob w->StAt w S st->st.c=some g->Calls Tryz.prog 65 #[.pointer (some ⟨S,0,none⟩),.string ⟨kFloats.toArray⟩] w (AnsR w (lookV st.c kFloats)))
  (S:Nat) (st:Cs) (line:List UInt8) (w:World) (hl:line.length<=20000) (hG:Glob w) (hs:StAt w S st) :
  Calls Tryz.prog 35 #[.pointer (some ⟨S,0,none⟩),.string ⟨line.toArray⟩] w (CmdR w S (doV atoiO st line)):=by
 obtain ⟨a,t,f,hcut⟩:∃a t f,cutF 32 line=(a,t,f):=⟨_,_,_,rfl⟩
 have ht:t.length<=20000:=by have h9:=(zjw 32 line).2;rw [hcut] at h9;exact Zv h9 hl
 by_cases h1:a=kWords
 ·subst h1;exact zie S st line t f hcut (by omega) w hG hs fun w' h=>zgh t (by omega) w' h
 by_cases h2:a=kCells
 ·subst h2;exact zia S st line t f hcut (by omega) w hG hs fun w' h=>zgf t (by omega) w' h
 by_cases h3:a=kShortest
 ·subst h3;exact zid S st line t f hcut (by omega) w hG hs fun w' h=>zgg t (by omega) w' h
 by_cases h4:a=kExpand
 ·subst h4;exact zl4 S st line t f hcut (by omega) w hG hs fun w' h=>zjv (fun k _ hk=>zqQ k (by omega)) t (by omega) w' h
 by_cases h5:a=kCloth
 ·subst h5;exact zib S st line t f hcut (by omega) w hG hs fun w' h h'=>by
   rcases hc:st.c with _ | g
   ·rw [<-hc];exact zbD S _ st w' h' hc
   ·rw [<-hc];exact ziy S st g w' h h' hc
 by_cases h6:a=kHangs
 ·subst h6;exact zic S st line t f hcut (by omega) w hG hs fun w' h h'=>by
   rcases hc:st.c with _ | g
   ·rw [<-hc];exact zbD S _ st w' h' hc
   ·rw [<-hc];exact ziz S st g w' h' hc
 by_cases h7:a=kFactor
 ·subst h7;exact zf9 S st line t f hcut (by omega) w hG hs fun w' h h'=>by
   rcases hc:st.c with _ | g
   ·rw [<-hc];exact zbD S _ st w' h' hc
   ·rw [<-hc];exact zgD S st g w' h h' hc
 by_cases h8:a=kFloats
 ·subst h8;exact zga S st line t f hcut (by omega) w hG hs fun w' h h'=>by
   rcases hc:st.c with _ | g
   ·rw [<-hc];exact zbD S _ st w' h' hc
   ·rw [<-hc];exact hfl S st g w' h h' hc
 by_cases h9:a=kRepeat
 ·subst h9;exact zgb S st line t f hcut (by omega) w hG hs fun w' h h'=>by
   rcases hc:st.c with _ | g
   ·rw [<-hc];exact zbD S _ st w' h' hc
   ·rw [<-hc];exact zgF S st g w' h h' hc
 have aa:a ∉ [kWords,kCells,kShortest,kExpand]:=by simp [h1,h2,h3,h4]
 have ab:a ∉ [kCloth,kHangs,kFactor,kFloats,kRepeat]:=by simp [h5,h6,h7,h8,h9]
 cases f with
 | false=>exact zjn S st line a t hcut (by omega) aa ab w hG hs
 | true=>exact zjo S st line a t hcut ht (by omega) aa ab w hG hs
end Go.Proofs.YtbjgpbojjhldaaaGreatDoor
/- A range over a function that hands on values whose memory the body reads: what is handed on is valid in the world in which it is handed on;the body is left at its end alone. -/
namespace Go.Proofs.YtbjgpbojjhldaaaGreatDoor
set_option maxRecDepth 100000
open Go.RowKit
section
variable {F:Fence} {n:Nat} {P:Program}
def SeqV {α:Type} (F:Fence) (n:Nat) (P:Program) (g:Nat) (lb:Array Value) (encs:α->Array Value) (V:α->World->Prop) (Kp:World->World->Prop) (S:List α->Prop) (N:Nat) (w:World):Prop :=
 ∀(l:Nat) (J:List α->World->Prop) (W:World),Below w.heap.size w W->(∀s A B,J s A->Ext A B->J s B) ->
  (∀pre x W1,J pre W1->V x W1->pre.length<N->YieldAt F (n-1) P l (encs x) W1 fun e W'=>e = .returned (.bool true)/\J (pre++[x]) W'/\Kp W1 W') ->
  J [] W->CallsIn F n P g (#[.func (.yield l) #[] #[]]++lb) W fun e W'=>(∃v,e = .returned v)/\∃xs,S xs/\J xs W'
def bodyV {α:Type} (B:Nat) (Kp:World->World->Prop) (I:List α->World->Prop) (xs:List α) (W:World):Exit->Act->World->Prop
 | .normal,_,W'=>KeepsFrom B W W'/\Kp W W'/\I xs W'
 | _,_,_=>False
def Books (R:LoopState->Loop) (s:LoopState) (D:Nat) (W:World):Prop:=W.heap[D+1]?=some (.loop (R s))/\W.heap[D]?=some (.deferred (some []))
theorem Books.ext {R:LoopState->Loop} {s:LoopState} {D:Nat} {A B:World} (h:Books R s D A) (hb:Ext A B):Books R s D B:=by
 have hlt:=(Zh.1 h.1).1
 exact ⟨(hb.block _ hlt).trans h.1,(hb.block _ (by omega)).trans h.2⟩
theorem Books.keeps {R:LoopState->Loop} {s:LoopState} {D:Nat} {A B:World} (h:Books R s D A) (hb:KeepsFrom D A B):Books R s D B :=
 ⟨hb.same _ _ (by omega) h.1 rfl,hb.same _ _ (Zb _) h.2 rfl⟩
theorem Books.put {R:LoopState->Loop} {s:LoopState} {D:Nat} {A:World} (h:Books R s D A) (t:LoopState):Books R t D (A.putObj (D+1) (.loop (R t))) :=
 ⟨World.putObj_heap_same (Zh.1 h.1).1,(World.putObj_heap_other (by omega)).trans h.2⟩
theorem ziM {α:Type} {g:Operand} {ps:Array Tmp} {assign body:Code} {Q:Exit->Act->World->Prop} {a:Act} {w:World} (hro:F.round=none) (h1:1<=n) {gf:Nat} {lb:Array Value}
  (hg:a.eval g = .func (.func gf) #[] lb) (hFg:F.fn gf) (eg:∀args w,(callFunc gf args).run P w = .ok (.enter gf args) w)
  {encs:α->Array Value} {V:α->World->Prop} {Kp:World->World->Prop} {S:List α->Prop} {N:Nat} {w0:World} (hseq:SeqV F (n-1) P gf lb encs V Kp S N w0) (hb0:Below w0.heap.size w0 w) (hps:∀x,(encs x).size=ps.size)
  (hKt:∀ {A B C:World},Kp A B->Kp B C->Kp A C) (hKb:∀(W:World) (l:Nat) (o o':Obj),w.heap.size<=l->W.heap[l]?=some o->o.isCells=false->o.isWalk=false->Kp W (W.putObj l o'))
  (I:List α->World->Prop) (hI:OwnFrom w.heap.size I) (hV:OwnFrom w.heap.size V) (h0:I [] w) (Ax:α->Act->World->Prop) (hAx:∀x a',OwnFrom w.heap.size (fun (_:Unit) W=>Ax x a' W))
  (hassign:∀(l:Nat) (pre:List α) (x:α) (W:World) (K:Act->World->Prop),I pre W->V x W->(∀a' W',KeepsFrom w.heap.size W W'->Kp W W'->I pre W'->V x W'->Ax x a' W'->K a' W') ->
   assign.wpIn (F.inRound l) (n-1-1) P (Exit.then K (fun _ _ _=>False)) { tmps:=(ps.zip (encs x)).foldl (fun t (p,v)=>t.setIfInBounds p v) a.tmps,defers:=[] } W)
  (hbody:∀(l:Nat) (pre:List α) (x:α) (a':Act) (W:World),w.heap.size<=l->(∃r,W.heap[l]?=some (.loop r))->I pre W->V x W->Ax x a' W->pre.length<N->body.wpIn (F.inRound l) (n-1-1) P (bodyV w.heap.size Kp I (pre++[x]) W) a' W)
  (hdone:∀(D:Nat) (xs:List α) (W:World),w.heap.size<=D->S xs->I xs W->W.heap[D]?=some (.deferred (some []))->Q .normal { a with defers:={ target := .collected D,args:=#[] }::a.defers } W) :
  (Code.rangeFunc g ps assign body).wpIn F n P Q a w:=by
 refine wpIn_rangeFunc fun fn hfn=>?_
 rw [hro]
 obtain ⟨R,hR⟩:∃R:LoopState->Loop,R=fun st=>{ state:=st,pending:=none,fn,tmps:=a.tmps,params:=ps,assign,body,defers:=w.heap.size }:=⟨_,rfl⟩
 have af:∀s t,{ R s with state:=t }=R t:=fun s t=>by rw [hR]
 have e1:Ext w ((w.alloc (.deferred (some []))).alloc (.loop (R .ready))):=((Ze w).alloc _).alloc _
 have b1:Books R .ready w.heap.size ((w.alloc (.deferred (some []))).alloc (.loop (R .ready))):=by
  refine ⟨?_,(Below.heap_alloc _ _ _ (by simp)).trans (World.alloc_heap_new w _)⟩
  have h9:=World.alloc_heap_new (w.alloc (.deferred (some []))) (.loop (R .ready))
  rwa [ZP] at h9
 have i1:I [] ((w.alloc (.deferred (some []))).alloc (.loop (R .ready))):=hI.alloc _ (hI.alloc _ h0)
 have r1:=run_enterLoop_outer (P:=P) (w:=w) fn a.tmps ps assign body
 have am:({ state := .ready,pending:=none,fn:=fn,tmps:=a.tmps,params:=ps,assign:=assign,body:=body,defers:=w.heap.size }:Loop)=R .ready:=by rw [hR]
 rw [am] at r1
 obtain ⟨W1,ao⟩:∃W1,(w.alloc (.deferred (some []))).alloc (.loop (R .ready))=W1:=⟨_,rfl⟩
 rw [ao] at e1 b1 i1 r1
 have al:Below w0.heap.size w0 W1:=hb0.trans (Below.mono e1 hb0.size)
 refine ⟨w.heap.size+1,[{ target := .collected w.heap.size,args:=#[] }],W1,{ target := .fn (.func gf) lb,args:=#[.func (.yield (w.heap.size+1)) #[] #[]] },W1,gf,
  #[.func (.yield (w.heap.size+1)) #[] #[]]++lb,W1,r1,by simp only [resolve,hg];simp [go_sem],fun f' hf'=>by simp [Target.leads] at hf';subst hf';exact hFg,by simp [invoke,go_sem,eg],fun _=>h1,?_⟩
 have aa:∀ {s:List α} {A:World} {st:LoopState} (t:LoopState),I s A->Books R st w.heap.size A->I s (A.putObj (w.heap.size+1) (.loop (R t))):=fun t hs hk=>hI.putObj _ hs (by omega) hk.1 rfl
 have ah:∀ {A:World} {st:LoopState} (t:LoopState),Books R st w.heap.size A->Kp A (A.putObj (w.heap.size+1) (.loop (R t))):=fun t hk=>hKb _ _ _ _ (by omega) hk.1 rfl rfl
 refine (hseq (w.heap.size+1) (fun pre W=>I pre W/\Books R .ready w.heap.size W) W1 al (fun s A B h he=>⟨hI s A B none h.1 (But.of_ext he none) (by simp),h.2.ext he⟩) ?_ ⟨i1,b1⟩).mono ?_
 ·rintro pre x W ⟨hi,hk⟩ hv hlen
  have hy:=run_yield (P:=P) (args:=encs x) hk.1 (by rw [hR];exact hps x)
  have ad:=hassign (w.heap.size+1) pre x W
  rw [hR] at hy
  refine ⟨fn,_,assign,body,hy,roundIn_of_wpIn hfn (ad _ hi hv ?_)⟩
  intro a' W2 au aw aq ay hx2
  have ab:=hk.keeps au
  refine ⟨_,run_beginRound ab.1 (by rw [hR]),?_⟩
  rw [af]
  have ae:=ab.put .busy
  have ag:=aa .busy aq ab
  have aj:=hV.putObj (s:=x) (.loop (R .busy)) ay (by omega) ab.1 rfl
  have ak:=(hAx x a').putObj (s:=()) (.loop (R .busy)) hx2 (by omega) ab.1 rfl
  have ai:=ah .busy ab
  obtain ⟨W3,ap⟩:∃W3,W2.putObj (w.heap.size+1) (.loop (R .busy))=W3:=⟨_,rfl⟩
  rw [ap] at ae ag aj ak ai ⊢
  refine wpIn_mono (hbody (w.heap.size+1) pre x a' W3 (by omega) ⟨_,ae.1⟩ ag aj ak hlen) ?_
  rintro e a4 W4 h4
  cases e with
  | normal =>
   obtain ⟨av,ax,ar⟩:=h4
   have ac:=ae.keeps av
   have hr:=run_endRound (P:=P) none ac.1
   refine ⟨_,_,hr,rfl,?_⟩
   have he:({ R .busy with state:=if (none:Option Code).isNone then .ready else .done,pending:=none }:Loop)=R .ready:=by rw [hR];rfl
   rw [he]
   exact ⟨⟨aa .ready ar ac,ac.put .ready⟩,hKt aw (hKt ai (hKt ax (ah .ready ac)))⟩
  | ret=>exact h4.elim
  | exit id=>exact h4.elim
  | goto t=>exact h4.elim
  | panic c=>exact h4.elim
  | outgrown=>exact h4.elim
 ·rintro e W2 ⟨⟨v,rfl⟩,xs,hS,hi,hk⟩
  have hr:=run_endLoop (P:=P) hk.1 (by rw [hR];simp)
  have hp:(R .ready).pending=none:=by rw [hR]
  rw [af,hp] at hr
  refine ⟨none,_,hr,?_⟩
  exact hdone w.heap.size xs _ (Zb _) hS (aa .exhausted hi hk) (hk.put .exhausted).2
end
end Go.Proofs.YtbjgpbojjhldaaaGreatDoor
/- A range over a function within a round of another one;the body is left at its end alone. -/
namespace Go.Proofs.YtbjgpbojjhldaaaGreatDoor
set_option maxRecDepth 100000
open Go.RowKit
section
variable {F:Fence} {n:Nat} {P:Program}
theorem zgP {α:Type} {g:Operand} {ps:Array Tmp} {assign body:Code} {Q:Exit->Act->World->Prop} {a:Act} {w:World} {l₀:Nat} {r₀:Loop} (hro:F.round=some l₀) (hl₀:w.heap[l₀]?=some (.loop r₀)) (h1:1<=n) {gf:Nat} {lb:Array Value}
  (hg:a.eval g = .func (.func gf) #[] lb) (hFg:F.fn gf) (eg:∀args w,(callFunc gf args).run P w = .ok (.enter gf args) w)
  {encs:α->Array Value} {V:α->World->Prop} {Kp:World->World->Prop} {S:List α->Prop} {N:Nat} {w0:World} (hseq:SeqV F (n-1) P gf lb encs V Kp S N w0) (hb0:Below w0.heap.size w0 w) (hps:∀x,(encs x).size=ps.size)
  (hKt:∀ {A B C:World},Kp A B->Kp B C->Kp A C) (hKb:∀(W:World) (l:Nat) (o o':Obj),w.heap.size<=l->W.heap[l]?=some o->o.isCells=false->o.isWalk=false->Kp W (W.putObj l o'))
  (I:List α->World->Prop) (hI:OwnFrom w.heap.size I) (hV:OwnFrom w.heap.size V) (h0:I [] w) (Ax:α->Act->World->Prop) (hAx:∀x a',OwnFrom w.heap.size (fun (_:Unit) W=>Ax x a' W))
  (hassign:∀(l:Nat) (pre:List α) (x:α) (W:World) (K:Act->World->Prop),I pre W->V x W->(∀a' W',KeepsFrom w.heap.size W W'->Kp W W'->I pre W'->V x W'->Ax x a' W'->K a' W') ->
   assign.wpIn (F.inRound l) (n-1-1) P (Exit.then K (fun _ _ _=>False)) { tmps:=(ps.zip (encs x)).foldl (fun t (p,v)=>t.setIfInBounds p v) a.tmps,defers:=[] } W)
  (hbody:∀(l:Nat) (pre:List α) (x:α) (a':Act) (W:World),w.heap.size<=l->(∃r,W.heap[l]?=some (.loop r))->I pre W->V x W->Ax x a' W->pre.length<N->body.wpIn (F.inRound l) (n-1-1) P (bodyV w.heap.size Kp I (pre++[x]) W) a' W)
  (hdone:∀(xs:List α) (W:World),S xs->I xs W->Q .normal a W) :
  (Code.rangeFunc g ps assign body).wpIn F n P Q a w:=by
 refine wpIn_rangeFunc fun fn hfn=>?_
 rw [hro]
 obtain ⟨R,hR⟩:∃R:LoopState->Loop,R=fun st=>{ state:=st,pending:=none,fn,tmps:=a.tmps,params:=ps,assign,body,defers:=r₀.defers }:=⟨_,rfl⟩
 have ag:∀s t,{ R s with state:=t }=R t:=fun s t=>by rw [hR]
 have e1:Ext w (w.alloc (.loop (R .ready))):=(Ze w).alloc _
 have b1:(w.alloc (.loop (R .ready))).heap[w.heap.size]?=some (.loop (R .ready)):=World.alloc_heap_new w (.loop (R .ready))
 have i1:I [] (w.alloc (.loop (R .ready))):=hI.alloc _ h0
 have r1:=run_enterLoop_inner (P:=P) (w:=w) hl₀ fn a.tmps ps assign body
 have ao:({ state := .ready,pending:=none,fn:=fn,tmps:=a.tmps,params:=ps,assign:=assign,body:=body,defers:=r₀.defers }:Loop)=R .ready:=by rw [hR]
 rw [ao] at r1
 obtain ⟨W1,ap⟩:∃W1,w.alloc (.loop (R .ready))=W1:=⟨_,rfl⟩
 rw [ap] at e1 b1 i1 r1
 have am:Below w0.heap.size w0 W1:=hb0.trans (Below.mono e1 hb0.size)
 refine ⟨w.heap.size,[],W1,{ target := .fn (.func gf) lb,args:=#[.func (.yield w.heap.size) #[] #[]] },W1,gf,
  #[.func (.yield w.heap.size) #[] #[]]++lb,W1,r1,by simp only [resolve,hg];simp [go_sem],fun f' hf'=>by simp [Target.leads] at hf';subst hf';exact hFg,by simp [invoke,go_sem,eg],fun _=>h1,?_⟩
 have aa:∀ {s:List α} {A:World} {st:LoopState} (t:LoopState),I s A->A.heap[w.heap.size]?=some (.loop (R st))->I s (A.putObj w.heap.size (.loop (R t))):=fun t hs hk=>hI.putObj _ hs (Zb _) hk rfl
 have ai:∀ {A:World} {st:LoopState} (t:LoopState),A.heap[w.heap.size]?=some (.loop (R st))->Kp A (A.putObj w.heap.size (.loop (R t))):=fun t hk=>hKb _ _ _ _ (Zb _) hk rfl rfl
 have ac:∀ {A:World} {st:LoopState} (t:LoopState),A.heap[w.heap.size]?=some (.loop (R st))->(A.putObj w.heap.size (.loop (R t))).heap[w.heap.size]?=some (.loop (R t)):=fun t hk=>World.putObj_heap_same (Zh.1 hk).1
 refine (hseq w.heap.size (fun pre W=>I pre W/\W.heap[w.heap.size]?=some (.loop (R .ready))) W1 am (fun s A B h he=>⟨hI s A B none h.1 (But.of_ext he none) (by simp),(he.block _ (Zh.1 h.2).1).trans h.2⟩) ?_ ⟨i1,b1⟩).mono ?_
 ·rintro pre x W ⟨hi,hk⟩ hv hlen
  have hy:=run_yield (P:=P) (args:=encs x) hk (by rw [hR];exact hps x)
  have ae:=hassign w.heap.size pre x W
  rw [hR] at hy
  refine ⟨fn,_,assign,body,hy,roundIn_of_wpIn hfn (ae _ hi hv ?_)⟩
  intro a' W2 av ax ar az hx2
  have ab:=av.same _ _ (Zb _) hk rfl
  refine ⟨_,run_beginRound ab (by rw [hR]),?_⟩
  rw [ag]
  have af:=ac .busy ab
  have ah:=aa .busy ar ab
  have ak:=hV.putObj (s:=x) (.loop (R .busy)) az (Zb _) ab rfl
  have al:=(hAx x a').putObj (s:=()) (.loop (R .busy)) hx2 (Zb _) ab rfl
  have aj:=ai .busy ab
  obtain ⟨W3,aq⟩:∃W3,W2.putObj w.heap.size (.loop (R .busy))=W3:=⟨_,rfl⟩
  rw [aq] at af ah ak al aj ⊢
  refine wpIn_mono (hbody w.heap.size pre x a' W3 (Zb _) ⟨_,af⟩ ah ak al hlen) ?_
  rintro e a4 W4 h4
  cases e with
  | normal =>
   obtain ⟨aw,ay,au⟩:=h4
   have ad:=aw.same _ _ (Zb _) af rfl
   have hr:=run_endRound (P:=P) none ad
   refine ⟨_,_,hr,rfl,?_⟩
   have he:({ R .busy with state:=if (none:Option Code).isNone then .ready else .done,pending:=none }:Loop)=R .ready:=by rw [hR];rfl
   rw [he]
   exact ⟨⟨aa .ready au ad,ac .ready ad⟩,hKt ax (hKt aj (hKt ay (ai .ready ad)))⟩
  | ret=>exact h4.elim
  | exit id=>exact h4.elim
  | goto t=>exact h4.elim
  | panic c=>exact h4.elim
  | outgrown=>exact h4.elim
 ·rintro e W2 ⟨⟨v,rfl⟩,xs,hS,hi,hk⟩
  have hr:=run_endLoop (P:=P) hk (by rw [hR];simp)
  have hp:(R .ready).pending=none:=by rw [hR]
  rw [ag,hp] at hr
  refine ⟨none,_,hr,?_⟩
  exact hdone xs _ hS (aa .exhausted hi hk)
end

end Go.Proofs.YtbjgpbojjhldaaaGreatDoor
