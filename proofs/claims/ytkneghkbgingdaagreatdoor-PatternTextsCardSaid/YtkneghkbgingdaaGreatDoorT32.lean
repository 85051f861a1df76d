/- The reference's lines of rows. -/
import Derived.Test.YtkneghkbgingdaaGreatDoorT31
namespace Go.Proofs.YtkneghkbgingdaaGreatDoor
set_option maxHeartbeats 16000000
set_option maxRecDepth 100000
open Go.RowKit Go.ChangeShapes Go.WideShapes Go.Joins
def CutR (s:List UInt8) (w:World) (e:Ending) (w':World):Prop:=∃(A:Option Addr) (n c:Nat) (ok:Bool),e = .returned (.tuple #[.slice A n c,.bool ok])/\Ext w w'/\((cutR s=none/\ok=false)∨∃ls,cutR s=some ls/\ok=true/\Vec shStr w' A n ls/\n<=c)
theorem CutR.no {s:List UInt8} {A:Option Addr} {n c:Nat} {w w':World} (h:cutR s=none) (hb:Ext w w'):CutR s w (.returned (.tuple #[.slice A n c,.bool false])) w':=⟨_,_,_,_,rfl,hb,.inl ⟨h,rfl⟩⟩
theorem CutR.yes {s:List UInt8} {A:Option Addr} {n c:Nat} {ls:List (List UInt8)} {w w':World} (h:cutR s=some ls) (hb:Ext w w') (hv:Vec shStr w' A n ls) (hc:n<=c):CutR s w (.returned (.tuple #[.slice A n c,.bool true])) w':=⟨_,_,_,_,rfl,hb,.inr ⟨ls,h,rfl,hv,hc⟩⟩
theorem ziv {s:List UInt8} (h:s≠[]):s.getLast?=some (s.getD (s.length-1) 0):=by
 have hl:=ZM.2 h
 rw [List.getLast?_eq_getElem?,Zc,Zd (by omega)]
 rfl
theorem zda (s:List UInt8) (hs:s.length<=100000) (w:World):Calls Tryz.prog 47 #[.string ⟨s.toArray⟩] w (CutR s w):=by
 by_cases h0:s=[]
 ·subst h0
  have HN:=Za (show cutR []=some [] from rfl)
  go_enter Tryz.func47,Tryz.ntmps47
  go_wp2_with fail
  go_ret2
  exact CutR.yes HN.out zx (Vec.none_ _ _ _) (Zg _)
 ·have hl:=ZM.2 h0
  have p0:((s.length:Int)==0)=false:=by rw [Ze];omega
  have p1:(0:Int)<=(s.length:Int)-1:=by omega
  have p2:(s.length:Int)-1<(s.length:Int):=by omega
  have p3:(s.length:Int)-1<=(s.length:Int):=by omega
  have i1:=Zh ((s.length:Int)-1) (by omega)
  have e1:((s.length:Int)-1).toNat=s.length-1:=by omega
  have hx:=zar s (s.length-1)
  have ab:=ziv h0
  have h5:=fun h=>zam s (s.length-1) h
  have aa:cutR s=if s.getLast?≠some 10 then none else some (spl 10 s.dropLast):=by rw [cutR,if_neg h0]
  rw [ab] at aa
  obtain ⟨x,ad⟩:∃x,s.getD (s.length-1) 0=x:=⟨_,rfl⟩
  rw [ad] at aa h5
  by_cases hx10:x=10
  ·subst hx10
   have HN:=Za (show cutR s=some (spl 10 (s.take (s.length-1))) by rw [aa,if_neg (by simp),List.dropLast_eq_take])
   obtain ⟨D,hD⟩:∃D,s.take (s.length-1)=D:=⟨_,rfl⟩
   rw [hD] at hx
   have hDl:D.length<=100000:=by rw [<-hD,Zx];omega
   rw [hD] at HN
   have ae:=Za (fun (w':World)=>(show Calls Tryz.prog 31 #[.string ⟨D.toArray⟩,.int .u8 10] w' fun e w''=>∃(A:Option Addr) (n c:Nat),e = .returned (.slice A n c)/\Ext w' w''/\Vec shStr w'' A n (spl 10 D)/\n<=c from by
    refine (zbL 10 D (by omega) w').mono ?_
    rintro e w9 ⟨v,rfl,ho,hb⟩
    obtain ⟨A,c,rfl,hv⟩:=zav ho
    exact ⟨A,_,c,rfl,hb,hv,zb2 ho⟩))
   clear aa ab ad hD hl h0
   go_enter Tryz.func47,Tryz.ntmps47
   go_wp2_with (first
    | (go_at_call 31;((with_reducible refine (ae.out _).mono ?_);rintro e w1 ⟨A1,n1,c1,rfl,hq1,hv1,af⟩;have HV1:=Za hv1;clear hv1)))
   go_ret2
   exact CutR.yes HN.out zx HV1.out af
  ·have HN:=Za (show cutR s=none by rw [aa,if_pos (by simpa using hx10)])
   have hne:(x==10)=false:=by simpa using hx10
   have ac:((x.toNat:Int)==10)=false:=by
    rw [Ze]
    intro h9
    apply hx10
    have h8:x.toNat=10:=by omega
    rw [<-ZQ]
    exact h8
   have hne3:((x.toNat:Int) != 10)=true:=by rw [bne,ac];rfl
   clear aa ab ad hl h0 hx
   go_enter Tryz.func47,Tryz.ntmps47
   go_wp2_with fail
   go_ret2
   exact CutR.no HN.out zx
def LinesR (ls:List (List UInt8)) (w:World) (e:Ending) (w':World):Prop:=∃(V:Value) (ok:Bool),e = .returned (.tuple #[V,.bool ok])/\Ext w w' /\
 ((linesR atoiO ls []=none/\ok=false/\V = .slice none 0 0)∨∃l,linesR atoiO ls []=some l/\l.length<=100/\ok=true/\OwnQ w' w.heap.size 75 V l.length l)
theorem LinesR.no {ls:List (List UInt8)} {w w':World} (h:linesR atoiO ls []=none) (hb:Ext w w'):LinesR ls w (.returned (.tuple #[.slice none 0 0,.bool false])) w':=⟨_,_,rfl,hb,.inl ⟨h,rfl,rfl⟩⟩
theorem LinesR.yes {ls:List (List UInt8)} {l:List Ro} {k:Nat} {V:Value} {w w':World} (h:linesR atoiO ls []=some l) (hk:l.length=k) (hl:l.length<=100) (hb:Ext w w') (ho:OwnQ w' w.heap.size 75 V k l):LinesR ls w (.returned (.tuple #[V,.bool true])) w':=by
 subst hk
 exact ⟨_,_,rfl,hb,.inr ⟨l,h,hl,rfl,ho⟩⟩
section
variable {at_:List UInt8->Option Int} {s:List UInt8} {r:List (List UInt8)} {acc:List Ro}
theorem ziC {x:Ro} (h:((spl 32 s).getD 0 []==agn5)=false) (hx:rowR at_ s=some x) (hl:¬100<=acc.length):linesR at_ (s::r) acc=linesR at_ r (acc++[x]):=by
 rw [linesR,if_pos (by simpa using h),hx]
 simp only
 rw [if_neg hl]
theorem ziy (h:((spl 32 s).getD 0 []==agn5)=false) (hx:rowR at_ s=none∨100<=acc.length):linesR at_ (s::r) acc=none:=by
 rw [linesR,if_pos (by simpa using h)]
 rcases hx with hx | hx
 ·rw [hx]
 ·cases rowR at_ s with
  | none=>rfl
  | some x=>simp only;rw [if_pos hx]
theorem ziz (h:((spl 32 s).getD 0 []==agn5)=true) (hl:(spl 32 s).length≠3):linesR at_ (s::r) acc=none:=by
 rw [linesR,if_neg (fun h9=>h9 (by simpa using h)),if_pos hl]
theorem ziA (h:((spl 32 s).getD 0 []==agn5)=true) (hl:(spl 32 s).length=3) (hn:numS ((spl 32 s).getD 1 [])=none∨numS ((spl 32 s).getD 2 [])=none):linesR at_ (s::r) acc=none:=by
 rw [linesR,if_neg (fun h9=>h9 (by simpa using h)),if_neg (fun h9=>h9 hl)]
 rcases hn with hn | hn
 ·rw [hn]
 ·rw [hn]
  cases numS ((spl 32 s).getD 1 []) <;> rfl
theorem ziB {k m:Nat} (h:((spl 32 s).getD 0 []==agn5)=true) (hl:(spl 32 s).length=3) (hk:numS ((spl 32 s).getD 1 [])=some k) (hm:numS ((spl 32 s).getD 2 [])=some m) :
  linesR at_ (s::r) acc=if k<1∨2<k∨m<1∨100<m∨acc.length<k∨100<acc.length+k*m then none else linesR at_ r (copies k (k*m) acc):=by
 rw [linesR,if_neg (fun h9=>h9 (by simpa using h)),if_neg (fun h9=>h9 hl),hk,hm]
end
theorem znS {ls:List (List UInt8)} {k:Nat} (hk:k<ls.length):ls.drop k=ls.getD k []::ls.drop (k+1):=by
 exact zpE
theorem zbb (c:UInt8) (s:List UInt8):0<(spl c s).length:=by
 rw [zdM c s.length s (Zg _)]
 omega
theorem Vec.word {w:World} {A:Option Addr} {n:Nat} {l:List (List UInt8)} (h:Vec shStr w A n l) {k:Nat} (hk:k<n):∃(b off:Nat),A=some ⟨b,off,none⟩/\b<w.heap.size/\w.cell? ⟨b,off+k,none⟩=some (.string ⟨(l.getD k []).toArray⟩):=by
 obtain ⟨b,off,e,hlt,hc⟩:=h.2 (by omega)
 have hx:l[k]?=some (l.getD k []):=by
  rw [Zc,Zd (by rw [h.1];exact hk)];rfl
 have h1:=hc k _ hx 0 _ rfl
 refine ⟨b,off,e,hlt,?_⟩
 have e2:k*shStr.size+0=k:=by show k*1+0=k;omega
 rw [e2] at h1
 exact h1
theorem zd9 (A:Option Addr) (n c:Nat) (ls:List (List UInt8)) (w:World) (hv:Vec shStr w A n ls) (hn:n<=100000) (hls:∀k,k<n->(ls.getD k []).length<=10000):Calls Tryz.prog 48 #[.slice A n c] w (LinesR ls w):=by
 have HV:=Za hv
 have aV:=hv.1
 have aZ:=Za hv.1
 have a0:=Za hls
 clear hv hls aV
 go_enter Tryz.func48,Tryz.ntmps48
 go_wp2_with fail
 go_loopw [4,5] (fun u i wr=>∃(q r k:Nat) (A':Option Addr) (acc:List Ro),u = .slice A' q r/\i = .int .i64 (k:Int)/\k<=n/\q<=100/\Hid (OwnQ wr w.heap.size 75 (.slice A' q r) q acc/\Ext w wr/\linesR atoiO ls []=linesR atoiO (ls.drop k) acc)) (fun _ i _=>n-(intOf i).toNat)
 case atStart=>exact ⟨0,0,0,none,[],rfl,rfl,Zy _,Zy _,Za ⟨OwnQ.nil _ _ _,zx,rfl⟩⟩
 case round =>
  obtain ⟨q,r,k,A',acc,rfl,rfl,hk,hq,HH⟩:=hrel
  obtain ⟨wa,rfl⟩:∃wa:World,wa=wr:=⟨_,rfl⟩
  have aO:=HH.out.2.1
  have ai:=Za aO
  have aN:=HH.out.1.len
  have HQL:=Za aN
  have aR:=Za (fun (w':World) (h:Ext wa w')=>HH.out.1.ext h)
  by_cases hlt:k<n
  ·have q1:(k:Int)<(n:Int):=by omega
   have q0:(0:Int)<=(k:Int):=by omega
   have i5:=Zh ((k:Int)+1) (by omega)
   obtain ⟨b,off,rfl,hb,bi⟩:=(HV.out.ext aO).word hlt
   have aK:=HH.out.2.2
   rw [znS (by rw [aZ.out];exact hlt)] at aK
   have aE:=a0.out k hlt
   obtain ⟨s,hs⟩:∃s,ls.getD k []=s:=⟨_,rfl⟩
   rw [hs] at aK aE bi
   have aj:=Za (show ∀(w':World),Calls Tryz.prog 31 #[.string ⟨s.toArray⟩,.int .u8 32] w' fun e w''=>∃(g:Option Addr) (c1:Nat),e = .returned (.slice g (spl 32 s).length c1)/\Ext w' w''/\((∃b off,g=some ⟨b,off,none⟩/\b<w''.heap.size/\w''.cell? ⟨b,off,none⟩=some (.string ⟨((spl 32 s).getD 0 []).toArray⟩))/\Vec shStr w'' g (spl 32 s).length (spl 32 s)) from fun w'=>by
    refine (zbL 32 s (by omega) w').mono ?_
    rintro e w9 ⟨v,rfl,ho,aH⟩
    obtain ⟨A9,c9,rfl,a9⟩:=zav ho
    exact ⟨A9,c9,rfl,aH,by simpa using a9.word (zbb 32 s),a9⟩)
   have aB:=Za (fun (w':World)=>zmO s aE w')
   have bj:(spl 32 s).length<=100000:=by
    have:=zbT 32 s
    omega
   have aW:=zbb 32 s
   obtain ⟨W0,aS⟩:∃W0,(spl 32 s).getD 0 []=W0:=⟨_,rfl⟩
   obtain ⟨nw,aM⟩:∃nw,(spl 32 s).length=nw:=⟨_,rfl⟩
   rw [aS,aM] at aj
   rw [aM] at bj aW
   have p6:(0:Int)<(nw:Int):=by omega
   have HS:=Za hs
   have aG:=Za aS
   have be:=Za aM
   have aF:=Za aK
   clear hs aK aE aO aS aM
   by_cases hag:(W0==agn5)=false
   ·have aC:(W0==[97,103,97,105,110])=false:=hag
    have aT:(W0 != [97,103,97,105,110])=true:=by rw [bne,aC];rfl
    have al:=fun (h:rowR atoiO s=none∨100<=acc.length)=>aF.out.trans (ziy (r:=ls.drop (k+1)) (by rw [aG.out];exact hag) h)
    have ad:=fun (x:Ro) (h:rowR atoiO s=some x) (h2:¬100<=acc.length)=>aF.out.trans (ziC (r:=ls.drop (k+1)) (by rw [aG.out];exact hag) h h2)
    rw [aN] at al ad
    cases hr:rowR atoiO s with
    | none =>
     have HNO:=Za (al (.inl hr))
     have aJ:=Za (show ∀(w':World),Calls Tryz.prog 82 #[.string ⟨s.toArray⟩] w' fun e w''=>(∃(b:Bool) (A:Option Addr) (n c:Nat),e = .returned (.tuple #[.agg #[.bool b,.slice A n c],.bool false]))/\Ext w' w'' from fun w'=>by
      refine (aB.out w').mono ?_
      rintro e w9 ⟨b9,A9,n9,c9,ok,rfl,aH,⟨_,rfl⟩ | ⟨cs,h2,_⟩⟩
      ·exact ⟨⟨b9,A9,n9,c9,rfl⟩,aH⟩
      ·rw [hr] at h2;cases h2)
     clear al ad hr aB
     go_wp2_with (first
      | (go_at_call 31;((with_reducible refine (aj.out _).mono ?_);rintro e w1 ⟨g1,c1,rfl,hq1,ac⟩;obtain ⟨b1,o1,e9,am,an⟩:=ac.1;cases e9;obtain ⟨ao,ap,aq⟩:=(zx:Ext wa w1).facts))
      | (go_at_call 82;((with_reducible refine (aJ.out _).mono ?_);rintro e w4 ⟨⟨b4,A4,n4,c4,rfl⟩,a6⟩)))
     go_ret2
     exact LinesR.no HNO.out (ai.out.trans zx)
    | some x =>
     have aJ:=Za (show ∀(w':World),Calls Tryz.prog 82 #[.string ⟨s.toArray⟩] w' fun e w''=>∃(A:Option Addr) (n c:Nat),e = .returned (.tuple #[.agg #[.bool x.back,.slice A n c],.bool true])/\Ext w' w''/\RoAt w'' (fun b=>w'.heap.size<=b) ⟨x.back,A,n,c⟩ x/\n<=c from fun w'=>by
      refine (aB.out w').mono ?_
      rintro e w9 ⟨b9,A9,n9,c9,ok,rfl,aH,⟨h2,_⟩ | ⟨cs,h2,rfl,h3,h4,h5,h6,h7⟩⟩
      ·rw [hr] at h2;cases h2
      ·rw [hr] at h2
       cases h2
       exact ⟨A9,n9,c9,rfl,aH,⟨rfl,h3,h5,h4,h6⟩,h7⟩)
     by_cases h100:100<=q
     ·have HNO:=Za (al (.inr h100))
      have p7:(100:Int)<=(q:Int):=by omega
      clear al ad hr aB
      go_wp2_with (first
       | (go_at_call 31;((with_reducible refine (aj.out _).mono ?_);rintro e w1 ⟨g1,c1,rfl,hq1,ac⟩;obtain ⟨b1,o1,e9,am,an⟩:=ac.1;cases e9;obtain ⟨ao,ap,aq⟩:=(zx:Ext wa w1).facts))
       | (go_at_call 82;((with_reducible refine (aJ.out _).mono ?_);rintro e w4 ⟨A4,n4,c4,rfl,a6, -, -⟩)))
      go_ret2
      exact LinesR.no HNO.out (ai.out.trans zx)
     ·have bh:=Za (ad x hr h100)
      have p7:¬((100:Int)<=(q:Int)):=by omega
      have a1:=Za (show q+1<=1000000 by omega)
      clear al ad hr aB
      obtain ⟨xb,xc⟩:=x
      go_wp2_with (first
       | (go_at_call 31;((with_reducible refine (aj.out _).mono ?_);rintro e w1 ⟨g1,c1,rfl,hq1,ac⟩;obtain ⟨b1,o1,e9,am,an⟩:=ac.1;cases e9;obtain ⟨ao,ap,aq⟩:=(zx:Ext wa w1).facts))
       | (go_at_call 82;((with_reducible refine (aJ.out _).mono ?_);rintro e w4 ⟨A4,n4,c4,rfl,a6,a7,a2⟩;have bf:=Za a7;have bb:=Za a2;clear a7 a2))
       | (at_builtin;(refine zak (w:=w) (t:=acc) (r:=[⟨xb,xc⟩]) (ys:=[⟨xb,A4,n4,c4⟩]) 22 75 (.agg #[.bool false,.slice none 0 0]) 32 (by rfl) (by rfl) Tryz.underlying22 zbB (by rfl) (by omega) (by rfl) (by rfl) (aR.out _ zx) (ai.out.trans zx) (Vec.lit2 (w:=w4.alloc (.cells #[.bool xb,.slice A4 n4 c4] 75)) (by simp) (by rfl) (by rfl)) (zbH (bf.out.keep (K':=Kq w.heap.size (.slice A' q r)) (Zl (show Ext w4 _ from zx)) (fun b hb hk=>⟨⟨ZD (Zl (ai.out.trans (show Ext wa _ from zx))) hk,fun e8=>by have h7:=(aR.out wa (Zf _)).blk b e8.symm;have h6:=Zl (show Ext wa _ from hq1);have hk2:w1.heap.size<=b:=ZD (by simp) hk;omega⟩,fun o=>Zs (p:=⟨b,o,none⟩) (show Ext w4 _ from zx) hb⟩))) (fun y hy=>by simp at hy;subst hy;exact bb.out) a1.out ?_;intro v' w6 af ar;obtain ⟨A6,c6,rfl, -⟩:=zbE af a1.out;have aQ:=Za af;clear af)))
      exact ⟨⟨q+1,c6,k+1,A6,acc++[⟨xb,xc⟩],rfl,by go_num,by omega,by omega,Za ⟨aQ.out,ar.out,bh.out⟩⟩,by simp [intOf];omega⟩
   ·have au:(W0==agn5)=true:=by simpa using hag
    have aC:(W0==[97,103,97,105,110])=true:=au
    have aT:(W0 != [97,103,97,105,110])=false:=by rw [bne,aC];rfl
    have ak:=fun (h:(spl 32 s).length≠3)=>aF.out.trans (ziz (at_:=atoiO) (r:=ls.drop (k+1)) (acc:=acc) (by rw [aG.out];exact au) h)
    have ab:=fun (h:(spl 32 s).length=3) h2=>aF.out.trans (ziA (at_:=atoiO) (r:=ls.drop (k+1)) (acc:=acc) (by rw [aG.out];exact au) h h2)
    have aa:=fun (h:(spl 32 s).length=3) (k' m:Nat) h2 h3=>aF.out.trans (ziB (at_:=atoiO) (r:=ls.drop (k+1)) (acc:=acc) (k:=k') (m:=m) (by rw [aG.out];exact au) h h2 h3)
    rw [be.out] at ak ab aa
    by_cases h3:nw=3
    case neg =>
     have HNO:=Za (ak h3)
     have p7:((nw:Int) != 3)=true:=by simp;omega
     have p8:((nw:Int)==3)=false:=by rw [Ze];omega
     clear ak ab aa aB h3
     go_wp2_with (first
      | (go_at_call 31;((with_reducible refine (aj.out _).mono ?_);rintro e w1 ⟨g1,c1,rfl,hq1,ac⟩;obtain ⟨b1,o1,e9,am,an⟩:=ac.1;cases e9;obtain ⟨ao,ap,aq⟩:=(zx:Ext wa w1).facts)))
     go_ret2
     exact LinesR.no HNO.out (ai.out.trans zx)
    subst h3
    have ab:=ab rfl
    have aa:=aa rfl
    have a5:=zal 32 s 1
    have aL:=zal 32 s 2
    have ae:=Za (fun (w':World) (g:Option Addr) (h:Vec shStr w' g 3 (spl 32 s))=>And.intro (h.word (k:=1) (by omega)) (h.word (k:=2) (by omega)))
    obtain ⟨U,hU⟩:∃U,(spl 32 s).getD 1 []=U:=⟨_,rfl⟩
    obtain ⟨Z,hZ⟩:∃Z,(spl 32 s).getD 2 []=Z:=⟨_,rfl⟩
    rw [hU] at ab aa a5 ae
    rw [hZ] at ab aa aL ae
    have aE:=a0.out k hlt
    rw [HS.out] at aE
    have ah:=Za (fun (w':World)=>zae U (by omega) w')
    have ag:=Za (fun (w':World)=>zae Z (by omega) w')
    clear ak aB hU hZ a5 aL aE
    have ah:=Za (show ∀(w':World),Calls Tryz.prog 83 #[.string ⟨U.toArray⟩] w' fun e w''=>e = .returned (.tuple #[.int .i64 (numN U),.bool (numS U).isSome])/\Ext w' w'' from ah.out)
    have ag:=Za (show ∀(w':World),Calls Tryz.prog 83 #[.string ⟨Z.toArray⟩] w' fun e w''=>e = .returned (.tuple #[.int .i64 (numN Z),.bool (numS Z).isSome])/\Ext w' w'' from ag.out)
    unfold numN at ah ag
    cases hn1:numS U with
    | none =>
     rw [hn1] at ah
     obtain ⟨v2,hv2⟩:∃v,(((numS Z).getD 0:Nat):Int)=v:=⟨_,rfl⟩
     obtain ⟨f2,a3⟩:∃v,(numS Z).isSome=v:=⟨_,rfl⟩
     rw [hv2,a3] at ag
     simp only [Option.getD_none,Option.isSome_none] at ah
     clear hv2 a3
     have HNO:=Za (ab (.inl hn1))
     clear ab aa
     go_wp2_with (first
      | (go_at_call 31;((with_reducible refine (aj.out _).mono ?_);rintro e w1 ⟨g1,c1,rfl,hq1,ac⟩;obtain ⟨b1,o1,e9,am,an⟩:=ac.1;cases e9;obtain ⟨⟨b2,o2,e9,_,av⟩,⟨b3,o3,e8,_,aw⟩⟩:=ae.out _ _ ac.2;cases e9;cases e8;obtain ⟨ao,ap,aq⟩:=(zx:Ext wa w1).facts))
      | (go_at_call 83;first
       | ((with_reducible refine (ah.out _).mono ?_);rintro e w2 ⟨rfl,hq2⟩;obtain ⟨ay,az,aA⟩:=(zx:Ext w1 w2).facts)
       | ((with_reducible refine (ag.out _).mono ?_);rintro e w3 ⟨rfl,ax⟩)))
     go_ret2
     exact LinesR.no HNO.out (ai.out.trans zx)
    | some kk =>
     rw [hn1] at ah
     simp only [Option.getD_some,Option.isSome_some] at ah
     cases hn2:numS Z with
     | none =>
      rw [hn2] at ag
      simp only [Option.getD_none,Option.isSome_none] at ag
      have HNO:=Za (ab (.inr hn2))
      clear ab aa
      go_wp2_with (first
       | (go_at_call 31;((with_reducible refine (aj.out _).mono ?_);rintro e w1 ⟨g1,c1,rfl,hq1,ac⟩;obtain ⟨b1,o1,e9,am,an⟩:=ac.1;cases e9;obtain ⟨⟨b2,o2,e9,_,av⟩,⟨b3,o3,e8,_,aw⟩⟩:=ae.out _ _ ac.2;cases e9;cases e8;obtain ⟨ao,ap,aq⟩:=(zx:Ext wa w1).facts))
       | (go_at_call 83;first
        | ((with_reducible refine (ah.out _).mono ?_);rintro e w2 ⟨rfl,hq2⟩;obtain ⟨ay,az,aA⟩:=(zx:Ext w1 w2).facts)
        | ((with_reducible refine (ag.out _).mono ?_);rintro e w3 ⟨rfl,ax⟩)))
      go_ret2
      exact LinesR.no HNO.out (ai.out.trans zx)
     | some mm =>
      rw [hn2] at ag
      simp only [Option.getD_some,Option.isSome_some] at ag
      have aa:=aa kk mm hn1 hn2
      rw [aN] at aa
      clear hn1 hn2
      by_cases y1:kk<1
      case pos =>
       have k1:(kk:Int)<1:=by omega
       have HNO:=Za (aa.trans (if_pos (.inl y1)))
       clear ab aa
       go_wp2_with (first
        | (go_at_call 31;((with_reducible refine (aj.out _).mono ?_);rintro e w1 ⟨g1,c1,rfl,hq1,ac⟩;obtain ⟨b1,o1,e9,am,an⟩:=ac.1;cases e9;obtain ⟨⟨b2,o2,e9,_,av⟩,⟨b3,o3,e8,_,aw⟩⟩:=ae.out _ _ ac.2;cases e9;cases e8;obtain ⟨ao,ap,aq⟩:=(zx:Ext wa w1).facts))
        | (go_at_call 83;first
         | ((with_reducible refine (ah.out _).mono ?_);rintro e w2 ⟨rfl,hq2⟩;obtain ⟨ay,az,aA⟩:=(zx:Ext w1 w2).facts)
         | ((with_reducible refine (ag.out _).mono ?_);rintro e w3 ⟨rfl,ax⟩)))
       go_ret2
       exact LinesR.no HNO.out (ai.out.trans zx)
      by_cases y2:2<kk
      case pos =>
       have k1:¬((kk:Int)<1):=by omega
       have k2:(2:Int)<(kk:Int):=by omega
       have HNO:=Za (aa.trans (if_pos (.inr (.inl y2))))
       clear ab aa
       go_wp2_with (first
        | (go_at_call 31;((with_reducible refine (aj.out _).mono ?_);rintro e w1 ⟨g1,c1,rfl,hq1,ac⟩;obtain ⟨b1,o1,e9,am,an⟩:=ac.1;cases e9;obtain ⟨⟨b2,o2,e9,_,av⟩,⟨b3,o3,e8,_,aw⟩⟩:=ae.out _ _ ac.2;cases e9;cases e8;obtain ⟨ao,ap,aq⟩:=(zx:Ext wa w1).facts))
        | (go_at_call 83;first
         | ((with_reducible refine (ah.out _).mono ?_);rintro e w2 ⟨rfl,hq2⟩;obtain ⟨ay,az,aA⟩:=(zx:Ext w1 w2).facts)
         | ((with_reducible refine (ag.out _).mono ?_);rintro e w3 ⟨rfl,ax⟩)))
       go_ret2
       exact LinesR.no HNO.out (ai.out.trans zx)
      by_cases y3:mm<1
      case pos =>
       have k1:¬((kk:Int)<1):=by omega
       have k2:¬((2:Int)<(kk:Int)):=by omega
       have k3:(mm:Int)<1:=by omega
       have HNO:=Za (aa.trans (if_pos (.inr (.inr (.inl y3)))))
       clear ab aa
       go_wp2_with (first
        | (go_at_call 31;((with_reducible refine (aj.out _).mono ?_);rintro e w1 ⟨g1,c1,rfl,hq1,ac⟩;obtain ⟨b1,o1,e9,am,an⟩:=ac.1;cases e9;obtain ⟨⟨b2,o2,e9,_,av⟩,⟨b3,o3,e8,_,aw⟩⟩:=ae.out _ _ ac.2;cases e9;cases e8;obtain ⟨ao,ap,aq⟩:=(zx:Ext wa w1).facts))
        | (go_at_call 83;first
         | ((with_reducible refine (ah.out _).mono ?_);rintro e w2 ⟨rfl,hq2⟩;obtain ⟨ay,az,aA⟩:=(zx:Ext w1 w2).facts)
         | ((with_reducible refine (ag.out _).mono ?_);rintro e w3 ⟨rfl,ax⟩)))
       go_ret2
       exact LinesR.no HNO.out (ai.out.trans zx)
      by_cases y4:100<mm
      case pos =>
       have k1:¬((kk:Int)<1):=by omega
       have k2:¬((2:Int)<(kk:Int)):=by omega
       have k3:¬((mm:Int)<1):=by omega
       have k4:(100:Int)<(mm:Int):=by omega
       have HNO:=Za (aa.trans (if_pos (.inr (.inr (.inr (.inl y4))))))
       clear ab aa
       go_wp2_with (first
        | (go_at_call 31;((with_reducible refine (aj.out _).mono ?_);rintro e w1 ⟨g1,c1,rfl,hq1,ac⟩;obtain ⟨b1,o1,e9,am,an⟩:=ac.1;cases e9;obtain ⟨⟨b2,o2,e9,_,av⟩,⟨b3,o3,e8,_,aw⟩⟩:=ae.out _ _ ac.2;cases e9;cases e8;obtain ⟨ao,ap,aq⟩:=(zx:Ext wa w1).facts))
        | (go_at_call 83;first
         | ((with_reducible refine (ah.out _).mono ?_);rintro e w2 ⟨rfl,hq2⟩;obtain ⟨ay,az,aA⟩:=(zx:Ext w1 w2).facts)
         | ((with_reducible refine (ag.out _).mono ?_);rintro e w3 ⟨rfl,ax⟩)))
       go_ret2
       exact LinesR.no HNO.out (ai.out.trans zx)
      by_cases y5:q<kk
      case pos =>
       have k1:¬((kk:Int)<1):=by omega
       have k2:¬((2:Int)<(kk:Int)):=by omega
       have k3:¬((mm:Int)<1):=by omega
       have k4:¬((100:Int)<(mm:Int)):=by omega
       have k5:(q:Int)<(kk:Int):=by omega
       have HNO:=Za (aa.trans (if_pos (.inr (.inr (.inr (.inr (.inl y5)))))))
       clear ab aa
       go_wp2_with (first
        | (go_at_call 31;((with_reducible refine (aj.out _).mono ?_);rintro e w1 ⟨g1,c1,rfl,hq1,ac⟩;obtain ⟨b1,o1,e9,am,an⟩:=ac.1;cases e9;obtain ⟨⟨b2,o2,e9,_,av⟩,⟨b3,o3,e8,_,aw⟩⟩:=ae.out _ _ ac.2;cases e9;cases e8;obtain ⟨ao,ap,aq⟩:=(zx:Ext wa w1).facts))
        | (go_at_call 83;first
         | ((with_reducible refine (ah.out _).mono ?_);rintro e w2 ⟨rfl,hq2⟩;obtain ⟨ay,az,aA⟩:=(zx:Ext w1 w2).facts)
         | ((with_reducible refine (ag.out _).mono ?_);rintro e w3 ⟨rfl,ax⟩)))
       go_ret2
       exact LinesR.no HNO.out (ai.out.trans zx)
      by_cases y6:100<q+kk*mm
      case pos =>
       have k1:¬((kk:Int)<1):=by omega
       have k2:¬((2:Int)<(kk:Int)):=by omega
       have k3:¬((mm:Int)<1):=by omega
       have k4:¬((100:Int)<(mm:Int)):=by omega
       have k5:¬((q:Int)<(kk:Int)):=by omega
       obtain ⟨N,hN⟩:∃N,kk*mm=N:=⟨_,rfl⟩
       rw [hN] at y6 aa
       have a4:N<=200:=by rw [<-hN];exact Nat.mul_le_mul (show kk<=2 by omega) (show mm<=100 by omega)
       have eN:(kk:Int)*(mm:Int)=(N:Int):=by rw [<-hN,Int.natCast_mul]
       have j1:=Zh ((q:Int)+(N:Int)) (by omega)
       have j2:=Zh (N:Int) (by omega)
       have k6:(100:Int)<(q:Int)+(N:Int):=by omega
       clear hN
       have HNO:=Za (aa.trans (if_pos (.inr (.inr (.inr (.inr (.inr y6)))))))
       clear ab aa
       go_wp2_with (first
        | (go_at_call 31;((with_reducible refine (aj.out _).mono ?_);rintro e w1 ⟨g1,c1,rfl,hq1,ac⟩;obtain ⟨b1,o1,e9,am,an⟩:=ac.1;cases e9;obtain ⟨⟨b2,o2,e9,_,av⟩,⟨b3,o3,e8,_,aw⟩⟩:=ae.out _ _ ac.2;cases e9;cases e8;obtain ⟨ao,ap,aq⟩:=(zx:Ext wa w1).facts))
        | (go_at_call 83;first
         | ((with_reducible refine (ah.out _).mono ?_);rintro e w2 ⟨rfl,hq2⟩;obtain ⟨ay,az,aA⟩:=(zx:Ext w1 w2).facts)
         | ((with_reducible refine (ag.out _).mono ?_);rintro e w3 ⟨rfl,ax⟩)))
       go_ret2
       exact LinesR.no HNO.out (ai.out.trans zx)
      have ad:=aa.trans (if_neg (by omega))
      have a4:kk*mm<=200:=Nat.mul_le_mul (show kk<=2 by omega) (show mm<=100 by omega)
      have k1:¬((kk:Int)<1):=by omega
      have k2:¬((2:Int)<(kk:Int)):=by omega
      have k3:¬((mm:Int)<1):=by omega
      have k4:¬((100:Int)<(mm:Int)):=by omega
      have k5:¬((q:Int)<(kk:Int)):=by omega
      obtain ⟨N,hN⟩:∃N,kk*mm=N:=⟨_,rfl⟩
      rw [hN] at y6 ad a4
      have eN:(kk:Int)*(mm:Int)=(N:Int):=by rw [<-hN,Int.natCast_mul]
      have j1:=Zh ((q:Int)+(N:Int)) (by omega)
      have j2:=Zh (N:Int) (by omega)
      have k6:¬((100:Int)<(q:Int)+(N:Int)):=by omega
      have bd:=Za ad
      have aY:=Za (show 1<=kk/\kk<=q by omega)
      have bc:=Za (show q+N<=100 by omega)
      clear hN ab aa ad
      go_wp2_with (first
       | (go_at_call 31;((with_reducible refine (aj.out _).mono ?_);rintro e w1 ⟨g1,c1,rfl,hq1,ac⟩;obtain ⟨b1,o1,e9,am,an⟩:=ac.1;cases e9;obtain ⟨⟨b2,o2,e9,_,av⟩,⟨b3,o3,e8,_,aw⟩⟩:=ae.out _ _ ac.2;cases e9;cases e8;obtain ⟨ao,ap,aq⟩:=(zx:Ext wa w1).facts))
       | (go_at_call 83;first
        | ((with_reducible refine (ah.out _).mono ?_);rintro e w2 ⟨rfl,hq2⟩;obtain ⟨ay,az,aA⟩:=(zx:Ext w1 w2).facts)
        | ((with_reducible refine (ag.out _).mono ?_);rintro e w3 ⟨rfl,ax⟩)))
      have aX:=Za (show Ext wa w3 from zx)
      have b1:decide ((kk:Int)<1)=false:=ZF (by omega)
      have b2:decide ((2:Int)<(kk:Int))=false:=ZF (by omega)
      have b4:decide ((mm:Int)<1)=false:=ZF (by omega)
      have b5:decide ((100:Int)<(mm:Int))=false:=ZF (by omega)
      have b6:decide ((100:Int)<(q:Int)+(N:Int))=false:=ZF (by omega)
      simp only [b1,b2,b4,b5,b6,Bool.or_false]
      clear b1 b2 b4 b5 b6 y1 y2 y3 y4 y5 y6 k1 k2 k3 k4 k5 k6
      go_loopw [4,13] (fun u i wi=>∃(j p r':Nat) (A2:Option Addr) (acc':List Ro),u = .slice A2 p r'/\i = .int .i64 (j:Int)/\j<=N/\Hid (p=q+j)/\Hid (OwnQ wi w.heap.size 75 (.slice A2 p r') p acc'/\Ext w wi/\copies kk N acc=copies kk (N-j) acc')) (fun _ i _=>N-(intOf i).toNat)
      case atStart=>exact ⟨0,q,r,A',acc,rfl,rfl,Zy _,Za rfl,Za ⟨aR.out _ aX.out,ai.out.trans aX.out,rfl⟩⟩
      case round =>
       obtain ⟨j,p,r',A2,acc',rfl,rfl,hj,hp,HI⟩:=hrel
       obtain ⟨wb,rfl⟩:∃wb:World,wb=wr:=⟨_,rfl⟩
       have hpb:p<=300:=by have:=hp.out;omega
       have hpk:kk<=p:=by have:=hp.out;have:=aY.out;omega
       by_cases hlt2:j<N
       ·have r1:(j:Int)<(N:Int):=by omega
        have hkk:=aY.out
        obtain ⟨b0,off0,x,rfl,hb0,d0,d1,a8,ba⟩:=HI.out.1.row (j:=p-kk) (by omega)
        have e2:((p:Int)-(kk:Int)).toNat=p-kk:=by omega
        have i1:=Zh ((p:Int)-(kk:Int)) (by omega)
        have i2:=Zh ((j:Int)+1) (by omega)
        have z0:(0:Int)<=(p:Int)-(kk:Int):=by omega
        have z1:(p:Int)-(kk:Int)<(p:Int):=by omega
        have z2:(0:Int)<=(j:Int):=by omega
        have aL:=HI.out.1.len
        have aP:=Za (show copies kk N acc=copies kk (N-(j+1)) (acc'++[acc'.getD (p-kk) ro0]) by
         rw [HI.out.2.2,show N-j=N-(j+1)+1 by omega,copies,aL])
        obtain ⟨xb,xA,xn,xc⟩:=x
        simp only at d0 d1 ba
        have bg:=Za a8
        clear a8
        go_wp2_with (first
         | (at_builtin;(refine zak (w:=w) (t:=acc') (r:=[acc'.getD (p-kk) ro0]) (ys:=[⟨xb,xA,xn,xc⟩]) 22 75 (.agg #[.bool false,.slice none 0 0]) 32 (by rfl) (by rfl) Tryz.underlying22 zbB (by rfl) (by omega) (by rfl) (by rfl) (HI.out.1.ext zx) (HI.out.2.1.trans zx) (Vec.lit2 (w:=wb) (by rfl) (by rfl) (by rfl)) (zbH (bg.out.keep (Zl (show Ext wb _ from zx)) (fun b hb hk=>⟨hk,fun o=>Zs (p:=⟨b,o,none⟩) (show Ext wb _ from zx) hb⟩))) (fun y hy=>by simp at hy;subst hy;exact ba) (by omega) ?_;intro v' w6 af ar;obtain ⟨A6,c6,rfl, -⟩:=zbE af (by omega);have aQ:=Za af;clear af)))
        go_roundw
        case rel=>exact ⟨j+1,p+1,c6,A6,acc'++[acc'.getD (p-kk) ro0],by go_num,by go_num,by omega,Za (by have:=hp.out;omega),Za ⟨aQ.out,ar.out,aP.out⟩⟩
        case measure=>simp [intOf] <;> omega
       ·obtain rfl:N=j:=by omega
        have aU:=HI.out.2.2
        rw [Nat.sub_self] at aU
        have aP:=Za (show copies kk N acc=acc' from aU)
        have r1:¬((N:Int)<(N:Int)):=by omega
        have aI:p<=100:=by have:=hp.out;have:=bc.out;omega
        clear aU
        go_wp2_with fail
        go_roundw
        case rel=>exact ⟨p,r',k+1,A2,acc',by go_num,by go_num,by omega,aI,Za ⟨HI.out.1,HI.out.2.1,by rw [bd.out,aP.out]⟩⟩
        case measure=>simp [intOf] <;> omega
  ·obtain rfl:k=n:=by omega
   have aD:=HH.out.2.2
   rw [List.drop_eq_nil_of_le (by rw [aZ.out];omega)] at aD
   have HF:=Za (show linesR atoiO ls []=some acc from aD)
   have q1:¬((k:Int)<(k:Int)):=by omega
   clear aD aO
   go_wp2_with fail
   go_ret2
   exact LinesR.yes HF.out aN (by omega) ai.out HH.out.1
end Go.Proofs.YtkneghkbgingdaaGreatDoor
