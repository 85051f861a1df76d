/- The reference's Parse of patterns. -/
import Derived.Test.YtkneghkbgingdaaGreatDoorT39
import Derived.Test.YtkneghkbgingdaaGreatDoorT41
namespace Go.Proofs.YtkneghkbgingdaaGreatDoor
set_option maxHeartbeats 16000000
set_option maxRecDepth 100000
open Go.RowKit Go.ChangeShapes Go.WideShapes Go.Joins
theorem zoT {s word:List UInt8} {nm:Bool} {n:Nat} {w w':World} {e:Ending} (h:HdR s word nm n w e w') (hn:hdrR s word nm n=none):∃(S:List UInt8) (A:Option Addr) (q c:Nat),e = .returned (.tuple #[.string ⟨S.toArray⟩,.slice A q c,.bool false])/\Ext w w':=by
 obtain ⟨S,A,q,c,ok,rfl,hb,⟨-,rfl⟩ | ⟨L,h1, -⟩⟩:=h
 ·exact ⟨S,A,q,c,rfl,hb⟩
 ·rw [hn] at h1;cases h1
theorem zfx {s word S:List UInt8} {L:List Int} {nm:Bool} {n:Nat} {w w':World} {e:Ending} (h:HdR s word nm n w e w') (hn:hdrR s word nm n=some (S,L)):∃(A:Option Addr) (c:Nat),e = .returned (.tuple #[.string ⟨S.toArray⟩,.slice A n c,.bool true])/\Ext w w'/\Ints w' A n L:=by
 obtain ⟨S',A,q,c,ok,rfl,hb,⟨h1, -⟩ | ⟨L',h1,rfl,h2,h3⟩⟩:=h
 ·rw [hn] at h1;cases h1
 ·rw [hn] at h1
  cases h1
  obtain rfl:q=n:=h3.len.symm.trans h2
  exact ⟨A,c,rfl,hb,h3⟩
theorem zj3 {s word S:List UInt8} {nm:Bool} {n:Nat} {L:List Int} (h:hdrR s word nm n=some (S,L)):S.length<=s.length:=by
 rw [hdrR] at h
 generalize (if nm=true then 2 else 1)=a at h
 split at h
 ·cases h
 ·obtain ⟨l, -,h2⟩:=ZH.1 h
  cases h2
  exact zal 32 s _
theorem zoM {s:List UInt8} {w w':World} {e:Ending} (h:CutR s w e w') (hn:cutR s=none):∃(A:Option Addr) (n c:Nat),e = .returned (.tuple #[.slice A n c,.bool false])/\Ext w w':=by
 obtain ⟨A,n,c,ok,rfl,hb,⟨-,rfl⟩ | ⟨ls,h1, -⟩⟩:=h
 ·exact ⟨A,n,c,rfl,hb⟩
 ·rw [hn] at h1;cases h1
theorem zgA {s:List UInt8} {ls:List (List UInt8)} {w w':World} {e:Ending} (h:CutR s w e w') (hn:cutR s=some ls):∃(A:Option Addr) (c:Nat),e = .returned (.tuple #[.slice A ls.length c,.bool true])/\Ext w w'/\Vec shStr w' A ls.length ls/\ls.length<=c:=by
 obtain ⟨A,n,c,ok,rfl,hb,⟨h1, -⟩ | ⟨ls',h1,rfl,h2,h3⟩⟩:=h
 ·rw [hn] at h1;cases h1
 ·rw [hn] at h1
  cases h1
  obtain rfl:=h2.len
  exact ⟨A,c,rfl,hb,h2,h3⟩
theorem zjF {s:List UInt8} {ls:List (List UInt8)} (h:cutR s=some ls):ls.length<=s.length+1/\∀k,(ls.getD k []).length<=s.length:=by
 rw [cutR] at h
 split at h
 ·cases h
  exact ⟨by simp,fun k=>by simp⟩
 ·split at h
  ·cases h
  ·cases h
   have h1:s.dropLast.length<=s.length:=by simp
   exact ⟨by have:=zbT 10 s.dropLast;omega,fun k=>ZD (zal 10 _ k) h1⟩
theorem PR.start (wA:World) (p:PSt) (h1:p.st=[]) (h2:p.se=[]) {w0:World} (hx:Ext (wA.alloc (.cells #[.string ⟨p.nm.toArray⟩,.int .i64 p.g1,.int .i64 p.g2,.int .i64 p.g3,.int .i64 p.g4,.slice none 0 0,.slice none 0 0] 42)) w0):PR wA.heap.size wA w0 w0 w0 p nilV nilV:=by
 have hs:wA.heap.size<(wA.alloc (.cells #[.string ⟨p.nm.toArray⟩,.int .i64 p.g1,.int .i64 p.g2,.int .i64 p.g3,.int .i64 p.g4,.slice none 0 0,.slice none 0 0] 42)).heap.size:=by simp
 have hz:=Zl hx
 refine ⟨((Zf wA).alloc _).trans hx,Zf _,Zf _,⟨Zg _,by omega⟩,?_,fun o=>?_,?_,?_,fun _=>rfl⟩
 ·refine CellsAt.ext ?_ hx hs
  intro j v hv
  rw [cell_of_row _ wA.heap.size _ _ _ (0,0) (heap_alloc_new wA _)]
  simpa [pcells,nilV] using hv
 ·rw [hx.facts.2.1 _ _ hs]
  simp [go_sem]
 ·rw [h1];exact OwnV.nil _ _ _ _
 ·rw [h2];exact ⟨[],rfl,OwnV.nil _ _ _ _,fun k hk=>absurd hk (by simp)⟩
theorem zhi {w wx:World} (hx:Ext (w.alloc (.cells #[.string ⟨#[]⟩,.int .i64 0,.int .i64 0,.int .i64 0,.int .i64 0,.slice none 0 0,.slice none 0 0] 42)) wx):CellsAt wx w.heap.size (pcells pst0 nilV nilV)/\(∀o,wx.frozen? ⟨w.heap.size,o,none⟩=false)/\w.heap.size<wx.heap.size:=by
 have hs:w.heap.size<(w.alloc (.cells #[.string ⟨#[]⟩,.int .i64 0,.int .i64 0,.int .i64 0,.int .i64 0,.slice none 0 0,.slice none 0 0] 42)).heap.size:=by simp
 refine ⟨(zcG w).ext hx hs,fun o=>?_,hx.facts.2.2 _ hs⟩
 rw [hx.facts.2.1 _ _ hs]
 simp [go_sem]
theorem zef (Y:List UInt8) (b:Bool) (h:secB Y=b) (w:World):Calls Tryz.prog 54 #[.string ⟨Y.toArray⟩,.string ⟨#[115,101,99,116,105,111,110,32]⟩] w fun e w''=>e = .returned (.bool b)/\Ext w w'':=by
 subst h
 exact zcM Y (cw++[32]) (by decide) w
theorem Vec.mid {w:World} {b off n:Nat} {l:List (List UInt8)} (h:Vec shStr w (some ⟨b,off,none⟩) n l) {i j:Nat} (hij:i<=j) (hj:j<=n):Vec shStr w (some ⟨b,off+i,none⟩) (j-i) ((l.drop i).take (j-i)):=by
 have hl:=h.1
 refine ⟨by rw [Zx,Zu];omega,fun hp=>?_⟩
 obtain ⟨b',off',e,hlt,hc⟩:=h.2 (by omega)
 cases e
 refine ⟨b,_,rfl,hlt,fun k x hk q u hu=>?_⟩
 have aa:k<j-i:=by
  have:=(ZK.1 hk).1
  rw [Zx] at this
  omega
 rw [List.getElem?_take_of_lt aa,ZV] at hk
 have h9:=hc (i+k) x hk q u hu
 have e1:off+i+k*shStr.size+q=off+(i+k)*shStr.size+q:=by show off+i+k*1+q=off+(i+k)*1+q;omega
 have e2:off+i+(k*shStr.size+q)=off+((i+k)*shStr.size+q):=by show off+i+(k*1+q)=off+((i+k)*1+q);omega
 first | exact (congrArg (fun z=>w.cell? ⟨b,z,none⟩) e1).trans h9 | exact (congrArg (fun z=>w.cell? ⟨b,z,none⟩) e2).trans h9
theorem Vec.mid2 {w:World} {b off n:Nat} {l:List (List UInt8)} (h:Vec shStr w (some ⟨b,off,none⟩) n l) {i j:Nat} (hij:i<=j) (hj:j<=n) {A:Option Addr} (hA:j-i=0∨A=some ⟨b,off+i,none⟩):Vec shStr w A (j-i) ((l.drop i).take (j-i)):=by
 rcases hA with h0 | rfl
 ·rw [h0,List.take_zero]
  exact Vec.none_ _ _ _
 ·exact h.mid hij hj
theorem SecF.fin {w9 wb wx wy:World} {B:Nat} {V2 V2':Value} {se:List Sec} {nm:List UInt8} {s:Int} {A:Option Addr} {n c:Nat} {rows:List Ro} {xs:List RSec} (hg:wx.grownBy wy V2.ownBlock/\(V2'.ownBlock=V2.ownBlock∨V2'.ownBlock=some wx.heap.size)) (ho:OwnV shSec wy B 59 V2' (se.length+1) (xs++[⟨nm,s,A,n,c⟩]))
  (h1:xs.length=se.length) (h3:∀k,k<se.length->SeC wb B V2 (xs.getD k rsec0) (se.getD k sec0)) (hb:Ext wb w9) (hr:RwC w9 (fun b=>B<=b/\some b≠V2.ownBlock) A n rows) (hc:n<=c) (hx:Ext w9 wx):SecF wy B V2' (se++[⟨nm,s,rows⟩]) :=
 SecF.add h1 (fun j hj=>(h3 j hj).ext (hb.trans hx)) (hr.ext hx) hc ho hg.1 hg.2
theorem zoS {s word:List UInt8} {nm b:Bool} {n:Nat} {w w':World} {e:Ending} (h:HdR s word nm n w e w') (hn:(hdrR s word nm n).isSome=b):∃(S:List UInt8) (A:Option Addr) (q c:Nat),e = .returned (.tuple #[.string ⟨S.toArray⟩,.slice A q c,.bool b])/\Ext w w':=by
 obtain ⟨S,A,q,c,ok,rfl,hb,⟨h1,rfl⟩ | ⟨L,h1,rfl, -⟩⟩:=h
 ·rw [h1] at hn;cases hn;exact ⟨S,A,q,c,rfl,hb⟩
 ·rw [h1] at hn;cases hn;exact ⟨S,A,q,c,rfl,hb⟩
theorem zkl {ls:List (List UInt8)} {N:Nat} (h:∀k,(ls.getD k []).length<=N) (i n k:Nat):(((ls.drop i).take n).getD k []).length<=N:=by
 rw [Zc,List.getElem?_take]
 split
 ·rw [ZV,<-Zc]
  exact h _
 ·simp
theorem zoZ {ls:List (List UInt8)} {w w':World} {e:Ending} (h:LinesR ls w e w') (hn:linesR atoiO ls []=none):e = .returned (.tuple #[.slice none 0 0,.bool false])/\Ext w w':=by
 obtain ⟨V,ok,rfl,hb,⟨-,rfl,rfl⟩ | ⟨l,h1, -⟩⟩:=h
 ·exact ⟨rfl,hb⟩
 ·rw [hn] at h1;cases h1
theorem znm {ls:List (List UInt8)} {l:List Ro} {w w':World} {e:Ending} (h:LinesR ls w e w') (hn:linesR atoiO ls []=some l):∃(A:Option Addr) (c:Nat),e = .returned (.tuple #[.slice A l.length c,.bool true])/\Ext w w'/\l.length<=100/\RwC w' (fun b=>w.heap.size<=b) A l.length l/\l.length<=c:=by
 obtain ⟨V,ok,rfl,hb,⟨h1, -⟩ | ⟨l',h1,h2,rfl,h3⟩⟩:=h
 ·rw [hn] at h1;cases h1
 ·rw [hn] at h1
  cases h1
  obtain ⟨A,c,rfl,h4,h5⟩:=zn3 h3 (by omega)
  exact ⟨A,c,rfl,hb,h2,h4,h5⟩
theorem za4 {w:World} {g:Nat} {p:PSt} {V1 V2:Value} (h:CellsAt w g (pcells p V1 V2)):w.cell? ⟨g,5,none⟩=some V1/\w.cell? ⟨g,6,none⟩=some V2:=⟨h 5 _ rfl,h 6 _ rfl⟩
theorem zfZ (s nm y:List UInt8) (x g:List Int) (ls:List (List UInt8)) (hs:s.length<=3000) (hc:cutR s=some ls) (hm3:3<=ls.length) (h0:hdrR (ls.getD 0 []) pw true 0=some (nm,x)) (h1:hdrR (ls.getD 1 []) gw false 4=some (y,g)) (w:World):Calls Tryz.prog 19 #[.string ⟨s.toArray⟩] w (PparR s w):=by
 have bQ:=(zhY zfi zbx s).symm.trans (zkt (by omega) hc hm3 h0 h1)
 have bA:=Za (fun (w':World)=>(zda s (by omega) w').mono fun _ _ h=>zgA h hc)
 obtain ⟨ck,aO⟩:=zjF hc
 have bf:=Za (fun k=>ZD (aO k) hs)
 have ca:=Za (ZD (zj3 h0) (ZD (aO 0) hs))
 have bo:=Za hs
 have bB:=Za (fun (w':World)=>(show Calls Tryz.prog 53 #[.string ⟨(ls.getD 0 []).toArray⟩,.string ⟨#[112,97,116,116,101,114,110]⟩,.bool true,.int .i64 0] w' _ from (zaT (ls.getD 0 []) pw true 0 2 rfl (by omega) (by have:=aO 0;omega) w').mono fun _ _ h=>zfx h h0))
 have bC:=Za (fun (w':World)=>(show Calls Tryz.prog 53 #[.string ⟨(ls.getD 1 []).toArray⟩,.string ⟨#[103,97,117,103,101]⟩,.bool false,.int .i64 4] w' _ from (zaT (ls.getD 1 []) gw false 4 1 rfl (by omega) (by have:=aO 1;omega) w').mono fun _ _ h=>zfx h h1))
 have hlen:¬(60000:Int)<(s.length:Int):=by omega
 obtain ⟨L0,hL0⟩:∃L,ls.getD 0 []=L:=⟨_,rfl⟩
 obtain ⟨L1,hL1⟩:∃L,ls.getD 1 []=L:=⟨_,rfl⟩
 rw [hL0] at bB
 rw [hL1] at bC
 have b6:=Za hL0
 have b7:=Za hL1
 obtain ⟨G1,hG1⟩:∃v,g.getD 0 0=v:=⟨_,rfl⟩
 obtain ⟨G2,hG2⟩:∃v,g.getD 1 0=v:=⟨_,rfl⟩
 obtain ⟨G3,hG3⟩:∃v,g.getD 2 0=v:=⟨_,rfl⟩
 obtain ⟨G4,hG4⟩:∃v,g.getD 3 0=v:=⟨_,rfl⟩
 have bP:p0R nm g=⟨nm,G1,G2,G3,G4,[],[]⟩:=by rw [p0R,hG1,hG2,hG3,hG4]
 have HG1:=Za hG1
 have bX:=Za hG2
 have bY:=Za hG3
 have bZ:=Za hG4
 obtain ⟨m,hm⟩:∃m,ls.length=m:=⟨_,rfl⟩
 have HM:=Za hm
 have bD:=Za bP
 have aZ:=Za bQ
 rw [hm] at bA ck hm3
 clear aO h0 h1 hc hs hL0 hL1 hm bP bQ hG1 hG2 hG3 hG4
 have q3:¬((m:Int)<3):=by omega
 have q0:(0:Int)<(m:Int):=by omega
 have q1:(1:Int)<(m:Int):=by omega
 have HRB:=Za (zcG w)
 have HRE:=Za (Zf (w.alloc (.cells #[.string ⟨#[]⟩,.int .i64 0,.int .i64 0,.int .i64 0,.int .i64 0,.slice none 0 0,.slice none 0 0] 42)))
 go_enter Tryz.func19,Tryz.ntmps19
 go_wp2_with (first
  | (go_at_call 47;((with_reducible refine (bA.out _).mono ?_);rintro e w1 ⟨A1,c1,rfl,hq1,hv1,au⟩;obtain ⟨b1,o1,rfl,bI,k0⟩:=hv1.word (k:=0) (by omega);obtain ⟨b2,o2,e9,hb2,k1⟩:=hv1.word (k:=1) (by omega);cases e9;rw [b6.out,Nat.add_zero] at k0;rw [b7.out] at k1;have HV1:=Za hv1;replace HRE:=Za (HRE.out.trans (zx:Ext _ w1));have bz:=Za au;clear hv1 au))
  | (go_at_call 53;(first
   | ((with_reducible refine (bB.out _).mono ?_);rintro e w2 ⟨A2,c2,rfl,hq2,hi2⟩;have hx2:=(zx:Ext w1 w2);have k1':=(hx2.facts.1 _ _ bI).trans k1;have br:=hx2.facts.2.2 _ bI;have cg:=Za hx2;clear hx2)
   | ((with_reducible refine (bC.out _).mono ?_);rintro e w3 ⟨A3,c3,rfl,hq3,bM⟩;obtain ⟨b3,o3,rfl,ci,aR⟩:=bM.2 (by omega);have g0:=aR 0 (by omega);have g1:=aR 1 (by omega);have g2:=aR 2 (by omega);have g3:=aR 3 (by omega);rw [Nat.add_zero] at g0;rw [HG1.out] at g0;rw [bX.out] at g1;rw [bY.out] at g2;rw [bZ.out] at g3;have bG:=Za (cg.out.trans (zx:Ext w2 w3));clear bM aR))))
 go_region_held3 (fun wx=>wx.cell? ⟨b3,o3,none⟩=some (.int .i64 G1)/\wx.cell? ⟨b3,o3+1,none⟩=some (.int .i64 G2)/\wx.cell? ⟨b3,o3+2,none⟩=some (.int .i64 G3)/\wx.cell? ⟨b3,o3+3,none⟩=some (.int .i64 G4)) (go_keep) (fail)
 have bj:=Za (PR.start w3 (⟨nm,G1,G2,G3,G4,[],[]⟩:PSt) rfl rfl ((Zf _).drew))
 replace HRE:=Za (HRE.out.trans bG.out)
 clear g0 g1 g2 g3 k0 k1 k1' br ci
 go_wp2_with fail
 go_loopw [13] (fun u wr=>∃(k:Nat) (p:PSt) (w0 W1:World) (V1 V2:Value),u = .int .i64 (k:Int)/\2<=k/\k<=m/\Hid (PR w3.heap.size w3 w0 W1 wr p V1 V2)/\Hid (LP atoiO ls (p0R nm g) k p)/\Hid (PBR k p)) (fun u _=>m-(intOf u).toNat)
 case atStart=>exact ⟨2,_,_,_,nilV,nilV,rfl,Zg _,by omega,bj,Za (by rw [<-bD.out];exact LP.start),Za (by rw [<-bD.out];exact PBR.start (by have:=ca.out;omega))⟩
 case round =>
  obtain ⟨k,p,w0,W1,V1,V2,rfl,hk2,hk,aa,aW,aY⟩:=hrel
  obtain ⟨wb,rfl⟩:∃wb:World,wb=wr:=⟨_,rfl⟩
  have z0:(0:Int)<=(k:Int):=by omega
  obtain ⟨As,cs,rfl, -⟩:=zav aa.out.st
  have aK:=aY.out
  obtain ⟨Ac,cc,rfl, -,hcc, -⟩:=aa.out.se.secs (by have:=aK.1;omega)
  have hsl:=aK.1
  by_cases hlt:k<m
  ·have z1:(k:Int)<(m:Int):=by omega
   have zi:=Zh ((k:Int)+1) ⟨by omega,by omega⟩
   have aN:=Za (HV1.out.ext (bG.out.trans aa.out.all))
   obtain ⟨b9,o9,e9,bJ,kc⟩:=aN.out.word hlt
   cases e9
   have bu:k<ls.length:=by rw [HM.out];exact hlt
   have cn:=bf.out k
   obtain ⟨X,hX⟩:∃X,ls.getD k []=X:=⟨_,rfl⟩
   rw [hX] at kc cn
   have HX:=Za hX
   have a9:=aa.out.box aa.out.b0
   obtain ⟨y5,y6⟩:=za4 a9.1
   have yf:=a9.2.1
   have yz:=a9.2.2
   have ab:=Za (fun (w':World) (hb:Ext w0 w')=>aa.out.box hb)
   have ae:=Za (fun (wx:World) (hb:Ext wb wx)=>zhi (HRE.out.trans (aa.out.all.trans hb)))
   have aD:=Za (((Zf w).alloc _).trans (HRE.out.trans aa.out.all))
   have hq1:∀(w':World),Calls Tryz.prog 53 #[.string ⟨X.toArray⟩,.string ⟨#[115,116,117,102,102]⟩,.bool true,.int .i64 1] w' (HdR X sw true 1 w'):=fun w'=>zaT X sw true 1 2 rfl (by omega) (by omega) w'
   have hq2:∀(w':World),Calls Tryz.prog 53 #[.string ⟨X.toArray⟩,.string ⟨#[115,101,99,116,105,111,110]⟩,.bool true,.int .i64 1] w' (HdR X cw true 1 w'):=fun w'=>zaT X cw true 1 2 rfl (by omega) (by omega) w'
   clear a9 hX
   have ad:(∃S L,hdrR X sw true 1=some (S,L)/\p.se=[])∨(hdrR X sw true 1=none)∨(∃S L,hdrR X sw true 1=some (S,L)/\p.se≠[]):=by
    cases hh:hdrR X sw true 1 with
    | none=>exact .inr (.inl rfl)
    | some v =>
     by_cases h9:p.se=[]
     ·exact .inl ⟨v.1,v.2,rfl,h9⟩
     ·exact .inr (.inr ⟨v.1,v.2,rfl,h9⟩)
   rcases ad with ⟨S,L,hh,aH⟩ | ad
   ·have bn:=Za aH
    have m0:((p.se.length:Int)==0)=true:=by rw [aH];rfl
    have ao:=Za (aW.out.stuff bu (by rw [HX.out];exact hh) aH)
    have bw:=zj3 hh
    have ap:=Za (aY.out.stuff (nm:=S) (n:=L.getD 0 0) (by omega))
    have a7:=Za (fun (w':World)=>(hq1 w').mono fun _ _ h=>zfx h hh)
    obtain ⟨v,hv⟩:∃v,L.getD 0 0=v:=⟨_,rfl⟩
    have HV:=Za hv
    rw [hv] at ao ap
    clear hh aH hv hq1 hq2
    go_wp2_with (first
     | (go_at_call 53;((with_reducible refine (a7.out _).mono ?_);rintro e w4 ⟨A4,c4,rfl,bb,bN⟩;obtain ⟨b4,o4,rfl,hb4,bK⟩:=bN.2 (by omega);have g0:=bK 0 (by omega);rw [Nat.add_zero,HV.out] at g0;have aj:=Za (zx:Ext wb w4);obtain ⟨y5',y6'⟩:=za4 (ab.out w4 (aa.out.b0.trans aj.out)).1;have yf':=(ab.out w4 (aa.out.b0.trans aj.out)).2.1;have yz':=(ab.out w4 (aa.out.b0.trans aj.out)).2.2;clear bN bK)))
    have cb:=Za (aa.out.st.ext (aa.out.e2.trans aj.out))
    have bW:=Za (aa.out.b0.trans aj.out)
    go_region_law (refine zau (S:=shStf) (w:=w0) (xs:=[⟨S,v⟩]) 39 61 (.agg #[.string ⟨#[]⟩,.int .i64 0]) 24 (by rfl) (by rfl) Tryz.underlying39 zhO (by rfl) (by omega) (by rfl) (by rfl) (cb.out.ext zx) (bW.out.trans zx) (Vec.lit2 (w:=w4) (by rfl) (by rfl) (by rfl)) (by omega) ?_;intro v' w5 aA an hgr5;obtain ⟨A5,c5,rfl, -⟩:=zav aA;obtain ⟨r5,r6⟩:=za4 (ab.out w5 an.out).1;have rf:=(ab.out w5 an.out).2.1;have rz:=(ab.out w5 an.out).2.2;have rf5:=rf 5)
    go_wp2_with fail
    all_goals exact ⟨⟨k+1,_,_,_,_,_,by go_num,by omega,by omega,Za (aa.out.addStf bn.out aA an.out),ao,ap⟩,by simp [intOf];omega⟩
   ·have ba:hdrR X sw true 1=none∨p.se≠[]:=by
     rcases ad with h9 | ⟨_,_,_,h9⟩
     ·exact .inl h9
     ·exact .inr h9
    have a7:=Za (fun (w':World)=>(show Calls Tryz.prog 53 #[.string ⟨X.toArray⟩,.string ⟨#[115,116,117,102,102]⟩,.bool true,.int .i64 1] w' fun e w''=>∃(S:List UInt8) (A:Option Addr) (q c:Nat) (ok:Bool),e = .returned (.tuple #[.string ⟨S.toArray⟩,.slice A q c,.bool ok])/\Ext w' w''/\(ok=false∨((p.se.length:Int)==0)=false) from (hq1 w').mono fun e w'' h=>by
     rcases ad with h9 | ⟨S,L,h9,h8⟩
     ·obtain ⟨S,A,q,c,h1,h2⟩:=zoT h h9
      exact ⟨S,A,q,c,false,h1,h2,.inl rfl⟩
     ·obtain ⟨A,c,h1,h2, -⟩:=zfx h h9
      have h7:=ZM.2 h8
      exact ⟨S,A,1,c,true,h1,h2,.inr (by rw [Ze];omega)⟩))
    cases h2:hdrR X cw true 1 with
    | none =>
     have ar:=Za (show patP atoiO gerr s=none by rw [aZ.out,aW.out.bad bu (by rw [HX.out];exact ba) (by rw [HX.out];exact h2)];rfl)
     have bk:=Za (fun (w':World)=>(hq2 w').mono fun _ _ h=>zoT h h2)
     clear ad ba hq1 hq2 h2
     go_wp2_with (first
      | (go_at_call 53;(first
       | ((with_reducible refine (a7.out _).mono ?_);rintro e w4 ⟨S4,A4,n4,c4,ok4,rfl,bb,aF⟩;have aj:=Za (zx:Ext wb w4);obtain ⟨y5',y6'⟩:=za4 (ab.out w4 (aa.out.b0.trans aj.out)).1;have yf':=(ab.out w4 (aa.out.b0.trans aj.out)).2.1;have yz':=(ab.out w4 (aa.out.b0.trans aj.out)).2.2;have kc4:=(bb.facts.1 _ _ bJ).trans kc;rcases aF with rfl | aF)
       | ((with_reducible refine (bk.out _).mono ?_);rintro e w5 ⟨S5,A5,n5,c5,rfl,cm⟩;have ah:=Za (aj.out.trans (zx:Ext w4 w5));obtain ⟨t0,t1,t2,t3,t4,t5,t6⟩:=zag (ae.out w5 ah.out).1;have tf:=(ae.out w5 ah.out).2.1;have tz:=(ae.out w5 ah.out).2.2))))
     all_goals
      have hz:=zjn (ae.out w5 ah.out).1 (.string ⟨#[]⟩) (.int .i64 0) (.int .i64 0) (.int .i64 0) (.int .i64 0) (.slice none 0 0) (.slice none 0 0)
      obtain ⟨z0,z1,z2,z3,z4,z5,z6⟩:=zcK hz
      exact bodyPost_ret (v := .tuple #[.agg #[.string ⟨#[]⟩,.int .i64 0,.int .i64 0,.int .i64 0,.int .i64 0,.slice none 0 0,.slice none 0 0],.int .i64 12]) (by simp [results,Tryz.f19,go_sem,z0,z1,z2,z3,z4,z5,z6]) rfl ⟨zjm (aD.out.trans ah.out) (Zg _) _ _ _ _ _ _ _,.inl ⟨ar.out,rfl⟩⟩
    | some v =>
     obtain ⟨S,L⟩:=v
     have bw:=zj3 h2
     have bk:=Za (fun (w':World)=>(hq2 w').mono fun _ _ h=>zfx h h2)
     have bg:=Za (fun (mm:Nat) (a1:k+1<=mm) (a2:mm<=ls.length) a3 a4=>aW.out.lines bu (by rw [HX.out];exact ba) (by rw [HX.out];exact h2) (m:=mm) a1 a2 a3 a4)
     obtain ⟨v,hv⟩:∃v,L.getD 0 0=v:=⟨_,rfl⟩
     have HV:=Za hv
     rw [hv] at bg
     have bF:=Za bw
     obtain ⟨xs,bT,hx2,bU⟩:=aa.out.se
     have bH:=Za bT
     have aX:=Za hx2
     have bE:=Za bU
     clear ad ba hq1 hq2 h2 hv bw bT hx2 bU
     go_upto_region 14 with (go_at_call 53;((with_reducible refine (a7.out _).mono ?_);rintro e w4 ⟨S4,A4,n4,c4,ok4,rfl,bb,aF⟩;have aj:=Za (zx:Ext wb w4);obtain ⟨y5',y6'⟩:=za4 (ab.out w4 (aa.out.b0.trans aj.out)).1;have yf':=(ab.out w4 (aa.out.b0.trans aj.out)).2.1;have yz':=(ab.out w4 (aa.out.b0.trans aj.out)).2.2;have kc4:=(bb.facts.1 _ _ bJ).trans kc))
     go_cut [99] (fun c wx=>c = .bool false/\w4=wx)
     case first =>
      cases ok4
      ·clear aF
       go_wp2_with fail
       go_meet
       exact ⟨rfl,rfl⟩
      ·have hok9:=aF.resolve_left (by simp)
       clear aF
       go_wp2_with fail
       go_meet
       exact ⟨rfl,rfl⟩
     case rest =>
      obtain ⟨rfl,rfl⟩:=hcut
      clear aF
      go_wp2_with (first
       | (go_at_call 53;((with_reducible refine (bk.out _).mono ?_);rintro e w5 ⟨A5,c5,rfl,cm,bO⟩;have ah:=Za (aj.out.trans (zx:Ext w4 w5));obtain ⟨b5,o5,rfl,a8,bL⟩:=bO.2 (by omega);have g0:=bL 0 (by omega);rw [Nat.add_zero,HV.out] at g0;clear bO bL)))
      go_loopw [20] (fun u wr=>∃(mm:Nat),u = .int .i64 (mm:Int)/\k+1<=mm/\mm<=m/\Hid (Ext w5 wr)/\Hid (∀j,k+1<=j->j<mm->secB (ls.getD j [])=false)) (fun u _=>m-(intOf u).toNat)
      case atStart=>exact ⟨k+1,by go_num,Zg _,by omega,Za zx,Za (fun j h1 h2=>absurd h2 (by omega))⟩
      case round =>
       obtain ⟨mm,rfl,aq,aw,aI,bh⟩:=hrel
       obtain ⟨wc,rfl⟩:∃wc:World,wc=wr:=⟨_,rfl⟩
       have z2:(0:Int)<=(mm:Int):=by omega
       have zm:=Zh ((mm:Int)+1) ⟨by omega,by omega⟩
       have cl:(mm<m/\secB (ls.getD mm [])=false)∨((mm:Int)<(m:Int)/\mm<m/\secB (ls.getD mm [])=true)∨(¬(mm:Int)<(m:Int)/\mm=m):=by
        by_cases h9:mm<m
        ·cases h8:secB (ls.getD mm []) with
         | false=>exact .inl ⟨h9,rfl⟩
         | true=>exact .inr (.inl ⟨by omega,h9,rfl⟩)
        ·exact .inr (.inr ⟨by omega,by omega⟩)
       rcases cl with ⟨aJ,aG⟩ | ⟨z3,aJ,aG⟩ | ⟨z3,aJ⟩
       ·have z3:(mm:Int)<(m:Int):=by omega
        obtain ⟨b8,o8,e8,cj,kd⟩:=(aN.out.ext (ah.out.trans aI.out)).word aJ
        cases e8
        have ax:=Za (fun (w':World)=>zef (ls.getD mm []) false aG w')
        have ce:=Za aG
        clear aG
        obtain ⟨Y,hY⟩:∃Y,ls.getD mm []=Y:=⟨_,rfl⟩
        rw [hY] at kd ax
        clear hY
        go_wp2_with (first
         | (go_at_call 54;((with_reducible refine (ax.out _).mono ?_);rintro e w7 ⟨rfl,bR⟩)))
        go_roundw
        case rel=>exact ⟨mm+1,by go_num,by omega,by omega,Za (by have h9:=aI.out;repeat (first|exact zr _|assumption|refine za ?_ _|refine zd ?_|refine zn ?_ _|refine zt ?_ (by assumption))),Za (fun j h1 h2=>by
         by_cases h3:j=mm
         ·rw [h3];exact ce.out
         ·exact bh.out j h1 (by omega))⟩
        case measure=>simp [intOf];omega
       ·obtain ⟨b8,o8,e8,cj,kd⟩:=(aN.out.ext (ah.out.trans aI.out)).word aJ
        cases e8
        have ax:=Za (fun (w':World)=>zef (ls.getD mm []) true aG w')
        have be:=Za (show mm=ls.length∨secB (ls.getD mm [])=true from .inr aG)
        clear aG
        obtain ⟨Y,hY⟩:∃Y,ls.getD mm []=Y:=⟨_,rfl⟩
        rw [hY] at kd ax
        clear hY
        have aL:=Za (fun (A':Option Addr) (n' c':Nat) (hn:n'=mm-(k+1)) (hA:mm-(k+1)=0∨A'=some ⟨b1,o1+(k+1),none⟩) (w':World) (hb:Ext wb w')=>(show Calls Tryz.prog 48 #[.slice A' n' c'] w' (LinesR ((ls.drop (k+1)).take (mm-(k+1))) w') from by subst hn;exact zd9 A' (mm-(k+1)) c' ((ls.drop (k+1)).take (mm-(k+1))) w' (Vec.mid2 (aN.out.ext hb) aq aw hA) (by omega) (fun j _=>ZD (zkl bf.out _ _ _) (by omega))))
        obtain ⟨al,af⟩:=bg.out mm aq (by rw [HM.out];exact aw) bh.out be.out
        have z4:(mm:Int)<=(c1:Int):=by have:=bz.out;omega
        have z5:(k:Int)+1<=(mm:Int):=by omega
        have z6:(0:Int)<=(k:Int)+1:=by omega
        have z7:mm<=c1:=by omega
        cases hr:linesR atoiO ((ls.drop (k+1)).take (mm-(k+1))) [] with
        | none =>
         have ar:=Za (show patP atoiO gerr s=none by rw [aZ.out,al hr];rfl)
         have aB:=Za (fun (A':Option Addr) (n' c':Nat) (hn:n'=mm-(k+1)) (hA:mm-(k+1)=0∨A'=some ⟨b1,o1+(k+1),none⟩) (w':World) (hb:Ext wb w')=>(aL.out A' n' c' hn hA w' hb).mono fun _ _ h=>zoZ h hr)
         clear al af hr
         have av:c1=k+1∨¬c1=k+1:=by omega
         rcases av with rfl | av
         all_goals (try (have z8:(mm:Int)<=(k:Int)+1:=by omega))
         all_goals
          go_wp2_with (first
           | (go_at_call 54;((with_reducible refine (ax.out _).mono ?_);rintro e w7 ⟨rfl,bR⟩;have am:=Za (aI.out.trans (zx:Ext wc w7))))
           | (go_at_call 48;((with_reducible refine (aB.out _ _ _ (by omega) (by first | exact .inr rfl | exact .inl (by omega)) _ (ah.out.trans am.out)).mono ?_);rintro e w9 ⟨rfl,bv⟩;have HX9:=Za (ah.out.trans (am.out.trans (zx:Ext w7 w9)));obtain ⟨t0,t1,t2,t3,t4,t5,t6⟩:=zag (ae.out w9 HX9.out).1;have tf:=(ae.out w9 HX9.out).2.1;have tz:=(ae.out w9 HX9.out).2.2)))
          all_goals
           have hz:=zjn (ae.out w9 HX9.out).1 (.string ⟨#[]⟩) (.int .i64 0) (.int .i64 0) (.int .i64 0) (.int .i64 0) (.slice none 0 0) (.slice none 0 0)
           obtain ⟨z0,z1,z2,z3,z4,z5,z6⟩:=zcK hz
           exact bodyPost_ret (v := .tuple #[.agg #[.string ⟨#[]⟩,.int .i64 0,.int .i64 0,.int .i64 0,.int .i64 0,.slice none 0 0,.slice none 0 0],.int .i64 12]) (by simp [results,Tryz.f19,go_sem,z0,z1,z2,z3,z4,z5,z6]) rfl ⟨zjm (aD.out.trans HX9.out) (Zg _) _ _ _ _ _ _ _,.inl ⟨ar.out,rfl⟩⟩
        | some rows =>
         have ao:=Za (af rows hr)
         have aB:=Za (fun (A':Option Addr) (n' c':Nat) (hn:n'=mm-(k+1)) (hA:mm-(k+1)=0∨A'=some ⟨b1,o1+(k+1),none⟩) (w':World) (hb:Ext wb w')=>(aL.out A' n' c' hn hA w' hb).mono fun _ _ h=>znm h hr)
         clear al af hr
         have av:c1=k+1∨¬c1=k+1:=by omega
         rcases av with rfl | av
         all_goals (try (have z8:(mm:Int)<=(k:Int)+1:=by omega))
         all_goals
          go_wp2_with (first
           | (go_at_call 54;((with_reducible refine (ax.out _).mono ?_);rintro e w7 ⟨rfl,bR⟩;have am:=Za (aI.out.trans (zx:Ext wc w7))))
           | (go_at_call 48;((with_reducible refine (aB.out _ _ _ (by omega) (by first | exact .inr rfl | exact .inl (by omega)) _ (ah.out.trans am.out)).mono ?_);rintro e w9 ⟨A9,c9,rfl,bv,aS,aU,aP⟩;have ak:=Za (am.out.trans (zx:Ext w7 w9));have HX9:=Za (ah.out.trans ak.out);have bp:=Za aU;have bm:=Za aS;have bc:=Za aP;clear aU aS aP;have g9:=(ak.out.facts.1 _ _ a8).trans g0;have bs:=ak.out.facts.2.2 _ a8;obtain ⟨v5,v6⟩:=za4 (ab.out w9 (aa.out.b0.trans HX9.out)).1;have vf:=(ab.out w9 (aa.out.b0.trans HX9.out)).2.1;have vz:=(ab.out w9 (aa.out.b0.trans HX9.out)).2.2)))
          all_goals
           have bi:=Za (aX.out.ext HX9.out)
           have bd:=Za (aa.out.e2.trans HX9.out)
           have HB9:=Za (fun b (hb:w7.heap.size<=b)=>(show W1.heap.size<=b/\some b≠(Value.slice Ac p.se.length cc).ownBlock from ⟨by have h1:=Zl aa.out.e2;have h2:=Zl (ah.out.trans am.out);omega,fun e=>by have h1:=(aX.out.blk b e.symm).2;have h2:=Zl (ah.out.trans am.out);omega⟩))
           go_region_law (refine zau (S:=shSec) (w:=W1) (xs:=[⟨S,v,A9,rows.length,c9⟩]) 40 59 (.agg #[.string ⟨#[]⟩,.int .i64 0,.slice none 0 0]) 48 (by rfl) (by rfl) Tryz.underlying40 zeB (by rfl) (by omega) (by rfl) (by rfl) (bi.out.ext zx) (bd.out.trans zx) (Vec.lit2 (w:=w9) (by rfl) (by rfl) (by rfl)) (by omega) ?_;intro v' wz ai ac aE;obtain ⟨Az,cz,rfl, -⟩:=zav ai;obtain ⟨r5,r6⟩:=za4 (ab.out wz (aa.out.e1.trans ac.out)).1;have rf:=(ab.out wz (aa.out.e1.trans ac.out)).2.1;have rz:=(ab.out wz (aa.out.e1.trans ac.out)).2.2;have rf6:=rf 6)
           go_wp2_with fail
           all_goals
            have aT:SecF wz W1.heap.size (.slice Az (p.se.length+1) cz) (p.se++[⟨S,v,rows⟩]):=SecF.fin aE.out ai bH.out bE.out HX9.out (bp.out.mono fun b _ hb=>HB9.out b hb) bc.out (by repeat (first | exact Zf _ | refine Zp ?_ _ | refine Z2 ?_))
            have aC:=Za (aa.out.addSec aT ac.out)
            have ap:=Za (aY.out.sec (n:=v) aq (ZD bF.out (by omega)) bm.out)
            clear aT
            exact ⟨⟨mm,_,_,_,_,_,rfl,by omega,by omega,aC,ao,ap⟩,by simp [intOf];omega⟩
       ·have be:=Za (show mm=ls.length∨secB (ls.getD mm [])=true from .inl (aJ.trans HM.out.symm))
        clear aJ
        have am:=Za aI.out
        obtain ⟨w7,rfl⟩:∃w7:World,w7=wc:=⟨_,rfl⟩
        have aL:=Za (fun (A':Option Addr) (n' c':Nat) (hn:n'=mm-(k+1)) (hA:mm-(k+1)=0∨A'=some ⟨b1,o1+(k+1),none⟩) (w':World) (hb:Ext wb w')=>(show Calls Tryz.prog 48 #[.slice A' n' c'] w' (LinesR ((ls.drop (k+1)).take (mm-(k+1))) w') from by subst hn;exact zd9 A' (mm-(k+1)) c' ((ls.drop (k+1)).take (mm-(k+1))) w' (Vec.mid2 (aN.out.ext hb) aq aw hA) (by omega) (fun j _=>ZD (zkl bf.out _ _ _) (by omega))))
        obtain ⟨al,af⟩:=bg.out mm aq (by rw [HM.out];exact aw) bh.out be.out
        have z4:(mm:Int)<=(c1:Int):=by have:=bz.out;omega
        have z5:(k:Int)+1<=(mm:Int):=by omega
        have z6:(0:Int)<=(k:Int)+1:=by omega
        have z7:mm<=c1:=by omega
        cases hr:linesR atoiO ((ls.drop (k+1)).take (mm-(k+1))) [] with
        | none =>
         have ar:=Za (show patP atoiO gerr s=none by rw [aZ.out,al hr];rfl)
         have aB:=Za (fun (A':Option Addr) (n' c':Nat) (hn:n'=mm-(k+1)) (hA:mm-(k+1)=0∨A'=some ⟨b1,o1+(k+1),none⟩) (w':World) (hb:Ext wb w')=>(aL.out A' n' c' hn hA w' hb).mono fun _ _ h=>zoZ h hr)
         clear al af hr
         have av:c1=k+1∨¬c1=k+1:=by omega
         rcases av with rfl | av
         all_goals (try (have z8:(mm:Int)<=(k:Int)+1:=by omega))
         all_goals
          go_wp2_with (first
           | (go_at_call 48;((with_reducible refine (aB.out _ _ _ (by omega) (by first | exact .inr rfl | exact .inl (by omega)) _ (ah.out.trans am.out)).mono ?_);rintro e w9 ⟨rfl,bv⟩;have HX9:=Za (ah.out.trans (am.out.trans (zx:Ext w7 w9)));obtain ⟨t0,t1,t2,t3,t4,t5,t6⟩:=zag (ae.out w9 HX9.out).1;have tf:=(ae.out w9 HX9.out).2.1;have tz:=(ae.out w9 HX9.out).2.2)))
          all_goals
           have hz:=zjn (ae.out w9 HX9.out).1 (.string ⟨#[]⟩) (.int .i64 0) (.int .i64 0) (.int .i64 0) (.int .i64 0) (.slice none 0 0) (.slice none 0 0)
           obtain ⟨z0,z1,z2,z3,z4,z5,z6⟩:=zcK hz
           exact bodyPost_ret (v := .tuple #[.agg #[.string ⟨#[]⟩,.int .i64 0,.int .i64 0,.int .i64 0,.int .i64 0,.slice none 0 0,.slice none 0 0],.int .i64 12]) (by simp [results,Tryz.f19,go_sem,z0,z1,z2,z3,z4,z5,z6]) rfl ⟨zjm (aD.out.trans HX9.out) (Zg _) _ _ _ _ _ _ _,.inl ⟨ar.out,rfl⟩⟩
        | some rows =>
         have ao:=Za (af rows hr)
         have aB:=Za (fun (A':Option Addr) (n' c':Nat) (hn:n'=mm-(k+1)) (hA:mm-(k+1)=0∨A'=some ⟨b1,o1+(k+1),none⟩) (w':World) (hb:Ext wb w')=>(aL.out A' n' c' hn hA w' hb).mono fun _ _ h=>znm h hr)
         clear al af hr
         have av:c1=k+1∨¬c1=k+1:=by omega
         rcases av with rfl | av
         all_goals (try (have z8:(mm:Int)<=(k:Int)+1:=by omega))
         all_goals
          go_wp2_with (first
           | (go_at_call 48;((with_reducible refine (aB.out _ _ _ (by omega) (by first | exact .inr rfl | exact .inl (by omega)) _ (ah.out.trans am.out)).mono ?_);rintro e w9 ⟨A9,c9,rfl,bv,aS,aU,aP⟩;have ak:=Za (am.out.trans (zx:Ext w7 w9));have HX9:=Za (ah.out.trans ak.out);have bp:=Za aU;have bm:=Za aS;have bc:=Za aP;clear aU aS aP;have g9:=(ak.out.facts.1 _ _ a8).trans g0;have bs:=ak.out.facts.2.2 _ a8;obtain ⟨v5,v6⟩:=za4 (ab.out w9 (aa.out.b0.trans HX9.out)).1;have vf:=(ab.out w9 (aa.out.b0.trans HX9.out)).2.1;have vz:=(ab.out w9 (aa.out.b0.trans HX9.out)).2.2)))
          all_goals
           have bi:=Za (aX.out.ext HX9.out)
           have bd:=Za (aa.out.e2.trans HX9.out)
           have HB9:=Za (fun b (hb:w7.heap.size<=b)=>(show W1.heap.size<=b/\some b≠(Value.slice Ac p.se.length cc).ownBlock from ⟨by have h1:=Zl aa.out.e2;have h2:=Zl (ah.out.trans am.out);omega,fun e=>by have h1:=(aX.out.blk b e.symm).2;have h2:=Zl (ah.out.trans am.out);omega⟩))
           go_region_law (refine zau (S:=shSec) (w:=W1) (xs:=[⟨S,v,A9,rows.length,c9⟩]) 40 59 (.agg #[.string ⟨#[]⟩,.int .i64 0,.slice none 0 0]) 48 (by rfl) (by rfl) Tryz.underlying40 zeB (by rfl) (by omega) (by rfl) (by rfl) (bi.out.ext zx) (bd.out.trans zx) (Vec.lit2 (w:=w9) (by rfl) (by rfl) (by rfl)) (by omega) ?_;intro v' wz ai ac aE;obtain ⟨Az,cz,rfl, -⟩:=zav ai;obtain ⟨r5,r6⟩:=za4 (ab.out wz (aa.out.e1.trans ac.out)).1;have rf:=(ab.out wz (aa.out.e1.trans ac.out)).2.1;have rz:=(ab.out wz (aa.out.e1.trans ac.out)).2.2;have rf6:=rf 6)
           go_wp2_with fail
           all_goals
            have aT:SecF wz W1.heap.size (.slice Az (p.se.length+1) cz) (p.se++[⟨S,v,rows⟩]):=SecF.fin aE.out ai bH.out bE.out HX9.out (bp.out.mono fun b _ hb=>HB9.out b hb) bc.out (by repeat (first | exact Zf _ | refine Zp ?_ _ | refine Z2 ?_))
            have aC:=Za (aa.out.addSec aT ac.out)
            have ap:=Za (aY.out.sec (n:=v) aq (ZD bF.out (by omega)) bm.out)
            clear aT
            exact ⟨⟨mm,_,_,_,_,_,rfl,by omega,by omega,aC,ao,ap⟩,by simp [intOf];omega⟩
  ·obtain rfl:k=m:=by omega
   have z1:¬(k:Int)<(k:Int):=by omega
   have aQ:=aW.out.fin (by rw [HM.out];exact Zg _)
   have aV:=Za (show patP atoiO gerr s=if ptxE p.nm (gerr p.g1 p.g2 p.g3 p.g4) p.g1 p.g2 p.g3 p.g4 p.st p.se=0/\ptxV p.nm (gerr p.g1 p.g2 p.g3 p.g4) p.g1 p.g2 p.g3 p.g4 p.st p.se=s then some p else none by rw [aZ.out,aQ];(first | done | rfl))
   obtain ⟨As',cs',e1,bS⟩:=zav aa.out.st
   cases e1
   obtain ⟨Ac',cc',e2,aH,au,ay⟩:=aa.out.se.secs (by have:=bo.out;omega)
   cases e2
   have ax:=Za (bS.ext aa.out.e2)
   have bn:=Za aH
   have cf:=Za ay
   have bV:=Za au
   have aM:=Za (fun (w':World) (hb:Ext wb w')=>zec p.nm p.g1 p.g2 p.g3 p.g4 As p.st.length cs p.st Ac p.se.length cc p.se w' (ax.out.ext hb) (bn.out.ext hb) (by have:=aK.2.1;omega) (fun i hi=>by
    have hm:p.st.getD i stf0∈p.st:=by rw [Zc,Zd hi];exact List.getElem_mem _
    have:=aK.2.2.1 _ hm
    show (p.st.getD i stf0).nm.length<=100000
    omega) (fun i hi=>by
    have hm:p.se.getD i sec0∈p.se:=by rw [Zc,Zd hi];exact List.getElem_mem _
    have:=(aK.2.2.2 _ hm).1
    show (p.se.getD i sec0).nm.length<=100000
    omega) (by have:=bo.out;omega) (by have:=bo.out;omega) (cf.out.ext hb) (zbx _ _ _ _))
   have ae:=Za (fun (wx:World) (hb:Ext wb wx)=>zhi (HRE.out.trans (aa.out.all.trans hb)))
   have aD:=Za (((Zf w).alloc _).trans (HRE.out.trans aa.out.all))
   have ab:=Za (fun (w':World) (hb:Ext wb w')=>(aa.out.box (aa.out.b0.trans hb)))
   have cd:=Za (fun (w':World) (hb:Ext wb w')=>(aa.out.ext hb).pv (g:=w.heap.size) (zhi HRE.out).2.2)
   unfold PtxR at aM
   obtain ⟨E,hE⟩:∃E,ptxE p.nm (gerr p.g1 p.g2 p.g3 p.g4) p.g1 p.g2 p.g3 p.g4 p.st p.se=E:=⟨_,rfl⟩
   obtain ⟨T,hT⟩:∃T,ptxV p.nm (gerr p.g1 p.g2 p.g3 p.g4) p.g1 p.g2 p.g3 p.g4 p.st p.se=T:=⟨_,rfl⟩
   rw [hE,hT] at aM aV
   clear aQ bS aH au ay hE hT aK
   obtain ⟨a0,a1,a2,a3,a4,a5,a6⟩:=zag (ab.out wb (Zf _)).1
   have az:=(ab.out wb (Zf _)).2.2
   have ad:(¬E=0)∨(E=0/\(T==s)=false)∨(E=0/\T=s):=by
    by_cases h1:E=0
    ·by_cases h2:T=s
     ·exact .inr (.inr ⟨h1,h2⟩)
     ·exact .inr (.inl ⟨h1,by simpa using h2⟩)
    ·exact .inl h1
   rcases ad with h1 | ⟨rfl,h2⟩ | ⟨rfl,rfl⟩
   ·have hne:(E != 0)=true:=by simpa using h1
    have HNO:=Za (aV.out.trans (if_neg (fun h9=>h1 h9.1)))
    clear h1
    go_wp2_with (first
     | (go_at_call 17;((with_reducible refine (aM.out _ zx).mono ?_);rintro e w2' ⟨rfl,hq2⟩;have ag:=Za (zx:Ext wb w2');obtain ⟨t0,t1,t2,t3,t4,t5,t6⟩:=zag (ae.out w2' ag.out).1;have tf:=(ae.out w2' ag.out).2.1;have tz:=(ae.out w2' ag.out).2.2)))
    have hz:=zjn (ae.out w2' ag.out).1 (.string ⟨#[]⟩) (.int .i64 0) (.int .i64 0) (.int .i64 0) (.int .i64 0) (.slice none 0 0) (.slice none 0 0)
    obtain ⟨z0,z1,z2,z3,z4,z5,z6⟩:=zcK hz
    exact bodyPost_ret (v := .tuple #[.agg #[.string ⟨#[]⟩,.int .i64 0,.int .i64 0,.int .i64 0,.int .i64 0,.slice none 0 0,.slice none 0 0],.int .i64 12]) (by simp [results,Tryz.f19,go_sem,z0,z1,z2,z3,z4,z5,z6]) rfl ⟨zjm (aD.out.trans ag.out) (Zg _) _ _ _ _ _ _ _,.inl ⟨HNO.out,rfl⟩⟩
   ·have HNO:=Za (aV.out.trans (if_neg (fun h9=>by rw [h9.2] at h2;simp at h2)))
    go_wp2_with (first
     | (go_at_call 17;((with_reducible refine (aM.out _ zx).mono ?_);rintro e w2' ⟨rfl,hq2⟩;have ag:=Za (zx:Ext wb w2');obtain ⟨t0,t1,t2,t3,t4,t5,t6⟩:=zag (ae.out w2' ag.out).1;have tf:=(ae.out w2' ag.out).2.1;have tz:=(ae.out w2' ag.out).2.2)))
    have hz:=zjn (ae.out w2' ag.out).1 (.string ⟨#[]⟩) (.int .i64 0) (.int .i64 0) (.int .i64 0) (.int .i64 0) (.slice none 0 0) (.slice none 0 0)
    obtain ⟨z0,z1,z2,z3,z4,z5,z6⟩:=zcK hz
    exact bodyPost_ret (v := .tuple #[.agg #[.string ⟨#[]⟩,.int .i64 0,.int .i64 0,.int .i64 0,.int .i64 0,.slice none 0 0,.slice none 0 0],.int .i64 12]) (by simp [results,Tryz.f19,go_sem,z0,z1,z2,z3,z4,z5,z6]) rfl ⟨zjm (aD.out.trans ag.out) (Zg _) _ _ _ _ _ _ _,.inl ⟨HNO.out,rfl⟩⟩
   ·have bq:=Za (aV.out.trans (if_pos ⟨rfl,rfl⟩))
    go_wp2_with (first
     | (go_at_call 17;((with_reducible refine (aM.out _ zx).mono ?_);rintro e w2' ⟨rfl,hq2⟩;have ag:=Za (zx:Ext wb w2');obtain ⟨t0,t1,t2,t3,t4,t5,t6⟩:=zag (ae.out w2' ag.out).1;have tf:=(ae.out w2' ag.out).2.1;have tz:=(ae.out w2' ag.out).2.2;obtain ⟨x0,x1,x2,x3,x4,x5,x6⟩:=zag (ab.out w2' ag.out).1;have xz:=(ab.out w2' ag.out).2.2)))
    have hq:=(((((((cd.out w2' ag.out).set 0 (.string ⟨p.nm.toArray⟩)).set 1 (.int .i64 p.g1)).set 2 (.int .i64 p.g2)).set 3 (.int .i64 p.g3)).set 4 (.int .i64 p.g4)).set 5 (.slice As p.st.length cs)).set 6 (.slice Ac p.se.length cc)
    obtain ⟨A1,c1',e1,h1⟩:=hq.stfs
    obtain ⟨A2',c2',e2,h2, -, -⟩:=hq.se.secs (by omega)
    cases e1
    cases e2
    have hz:=zjn (ae.out w2' ag.out).1 (.string ⟨p.nm.toArray⟩) (.int .i64 p.g1) (.int .i64 p.g2) (.int .i64 p.g3) (.int .i64 p.g4) (.slice As p.st.length cs) (.slice Ac p.se.length cc)
    obtain ⟨z0,z1,z2,z3,z4,z5,z6⟩:=zcK hz
    exact bodyPost_ret (v := .tuple #[.agg #[.string ⟨p.nm.toArray⟩,.int .i64 p.g1,.int .i64 p.g2,.int .i64 p.g3,.int .i64 p.g4,.slice As p.st.length cs,.slice Ac p.se.length cc],.int .i64 0]) (by simp [results,Tryz.f19,go_sem,z0,z1,z2,z3,z4,z5,z6]) rfl ⟨zjm (aD.out.trans ag.out) (Zg _) _ _ _ _ _ _ _,.inr ⟨p,As,Ac,cs,cc,bq.out,rfl,h1,h2,bV.out⟩⟩
theorem zZ5 {p:Prop} (h:p:=by
 have hz:=zjn (zhi HRE.out).1 (.string ⟨#[]⟩) (.int .i64 0) (.int .i64 0) (.int .i64 0) (.int .i64 0) (.slice none 0 0) (.slice none 0 0)
 obtain ⟨z0,z1,z2,z3,z4,z5,z6⟩:=zcK hz
 exact bodyPost_ret (v := .tuple #[.agg #[.string ⟨#[]⟩,.int .i64 0,.int .i64 0,.int .i64 0,.int .i64 0,.slice none 0 0,.slice none 0 0],.int .i64 12]) (by simp [results,Tryz.f19,go_sem,z0,z1,z2,z3,z4,z5,z6]) rfl ⟨zjm (((Zf w).alloc _).trans HRE.out) (Zg _) _ _ _ _ _ _ _,.inl ⟨HNO.out,rfl⟩⟩):p:=h
theorem zgX (s:List UInt8) (hs:s.length<=3000) (hc:cutR s=none) (w:World):Calls Tryz.prog 19 #[.string ⟨s.toArray⟩] w (PparR s w):=by
 have HNO:=Za ((zhY zfi zbx s).symm.trans (zmp hc))
 have aa:=Za (fun (w':World)=>(zda s (by omega) w').mono fun _ _ h=>zoM h hc)
 have hlen:¬(60000:Int)<(s.length:Int):=by omega
 clear hc hs
 have HRE:=Za (Zf (w.alloc (.cells #[.string ⟨#[]⟩,.int .i64 0,.int .i64 0,.int .i64 0,.int .i64 0,.slice none 0 0,.slice none 0 0] 42)))
 go_enter Tryz.func19,Tryz.ntmps19
 go_wp2_with (first
  | (go_at_call 47;((with_reducible refine (aa.out _).mono ?_);rintro e w1 ⟨A1,n1,c1,rfl,hq1⟩;replace HRE:=Za (HRE.out.trans (zx:Ext _ w1));obtain ⟨t0,t1,t2,t3,t4,t5,t6⟩:=zag (zhi HRE.out).1;have tf:=(zhi HRE.out).2.1;have tz:=(zhi HRE.out).2.2)))
 exact zZ5
theorem zgY (s:List UInt8) (ls:List (List UInt8)) (hs:s.length<=3000) (hc:cutR s=some ls) (hm3:ls.length<3) (w:World):Calls Tryz.prog 19 #[.string ⟨s.toArray⟩] w (PparR s w):=by
 have HNO:=Za ((zhY zfi zbx s).symm.trans (zmq hc hm3))
 have ab:=Za (fun (w':World)=>(zda s (by omega) w').mono fun _ _ h=>zgA h hc)
 have hlen:¬(60000:Int)<(s.length:Int):=by omega
 generalize ls.length=m at *
 have q3:(m:Int)<3:=by omega
 clear hc hs
 have HRE:=Za (Zf (w.alloc (.cells #[.string ⟨#[]⟩,.int .i64 0,.int .i64 0,.int .i64 0,.int .i64 0,.slice none 0 0,.slice none 0 0] 42)))
 go_enter Tryz.func19,Tryz.ntmps19
 go_wp2_with (first
  | (go_at_call 47;((with_reducible refine (ab.out _).mono ?_);rintro e w1 ⟨A1,c1,rfl,hq1,hv1,aa⟩;clear hv1 aa;replace HRE:=Za (HRE.out.trans (zx:Ext _ w1));obtain ⟨t0,t1,t2,t3,t4,t5,t6⟩:=zag (zhi HRE.out).1;have tf:=(zhi HRE.out).2.1;have tz:=(zhi HRE.out).2.2)))
 exact zZ5
theorem zeb (s:List UInt8) (ls:List (List UInt8)) (hs:s.length<=3000) (hc:cutR s=some ls) (hm3:3<=ls.length) (hn:hdrR (ls.getD 0 []) pw true 0=none∨hdrR (ls.getD 1 []) gw false 4=none) (w:World):Calls Tryz.prog 19 #[.string ⟨s.toArray⟩] w (PparR s w):=by
 have HNO:=Za ((zhY zfi zbx s).symm.trans (zn5 hc hn))
 have af:=Za (fun (w':World)=>(zda s (by omega) w').mono fun _ _ h=>zgA h hc)
 obtain ⟨hc1,aa⟩:=zjF hc
 have hlen:¬(60000:Int)<(s.length:Int):=by omega
 have key:∀(b0 b1:Bool),(hdrR (ls.getD 0 []) pw true 0).isSome=b0->(hdrR (ls.getD 1 []) gw false 4).isSome=b1->(b0 && b1)=false->Calls Tryz.prog 19 #[.string ⟨s.toArray⟩] w (PparR s w):=by
  intro b0 b1 e0 e1 e2
  have ac:=Za (fun (w':World)=>(show Calls Tryz.prog 53 #[.string ⟨(ls.getD 0 []).toArray⟩,.string ⟨#[112,97,116,116,101,114,110]⟩,.bool true,.int .i64 0] w' fun e w''=>∃(S:List UInt8) (A:Option Addr) (q c:Nat),e = .returned (.tuple #[.string ⟨S.toArray⟩,.slice A q c,.bool b0])/\Ext w' w'' from (zaT (ls.getD 0 []) pw true 0 2 rfl (by omega) (by have:=aa 0;omega) w').mono fun _ _ h=>zoS h e0))
  have ad:=Za (fun (w':World)=>(show Calls Tryz.prog 53 #[.string ⟨(ls.getD 1 []).toArray⟩,.string ⟨#[103,97,117,103,101]⟩,.bool false,.int .i64 4] w' fun e w''=>∃(S:List UInt8) (A:Option Addr) (q c:Nat),e = .returned (.tuple #[.string ⟨S.toArray⟩,.slice A q c,.bool b1])/\Ext w' w'' from (zaT (ls.getD 1 []) gw false 4 1 rfl (by omega) (by have:=aa 1;omega) w').mono fun _ _ h=>zoS h e1))
  obtain ⟨L0,hL0⟩:∃L,ls.getD 0 []=L:=⟨_,rfl⟩
  obtain ⟨L1,hL1⟩:∃L,ls.getD 1 []=L:=⟨_,rfl⟩
  rw [hL0] at ac
  rw [hL1] at ad
  have ag:=Za hL0
  have ah:=Za hL1
  clear hn aa hc hs e0 e1 hL0 hL1
  generalize ls.length=m at *
  have q3:¬((m:Int)<3):=by omega
  have q0:(0:Int)<(m:Int):=by omega
  have q1:(1:Int)<(m:Int):=by omega
  have HRE:=Za (Zf (w.alloc (.cells #[.string ⟨#[]⟩,.int .i64 0,.int .i64 0,.int .i64 0,.int .i64 0,.slice none 0 0,.slice none 0 0] 42)))
  have aj:(b0=false)∨(b0=true/\b1=false):=by
   cases b0
   ·exact .inl rfl
   ·exact .inr ⟨rfl,by simpa using e2⟩
  clear e2
  rcases aj with rfl | ⟨rfl,rfl⟩
  all_goals
   go_enter Tryz.func19,Tryz.ntmps19
   go_wp2_with (first
    | (go_at_call 47;((with_reducible refine (af.out _).mono ?_);rintro e w1 ⟨A1,c1,rfl,hq1,hv1,ab⟩;obtain ⟨b2,o1,rfl,ae,k0⟩:=hv1.word (k:=0) (by omega);obtain ⟨b3,o2,e9,hb2,k1⟩:=hv1.word (k:=1) (by omega);cases e9;rw [ag.out,Nat.add_zero] at k0;rw [ah.out] at k1;replace HRE:=Za (HRE.out.trans (zx:Ext _ w1));clear hv1 ab))
    | (go_at_call 53;(first
     | ((with_reducible refine (ac.out _).mono ?_);rintro e w2 ⟨S2,A2,n2,c2,rfl,hq2⟩;have hx2:=(zx:Ext w1 w2);have k1':=(hx2.facts.1 _ _ ae).trans k1;have hb1':=hx2.facts.2.2 _ ae;have ai:=Za hx2;clear hx2)
     | ((with_reducible refine (ad.out _).mono ?_);rintro e w3 ⟨S3,A3,n3,c3,rfl,hq3⟩;replace HRE:=Za (HRE.out.trans (ai.out.trans (zx:Ext w2 w3)));obtain ⟨t0,t1,t2,t3,t4,t5,t6⟩:=zag (zhi HRE.out).1;have tf:=(zhi HRE.out).2.1;have tz:=(zhi HRE.out).2.2))))
   all_goals
    have hz:=zjn (zhi HRE.out).1 (.string ⟨#[]⟩) (.int .i64 0) (.int .i64 0) (.int .i64 0) (.int .i64 0) (.slice none 0 0) (.slice none 0 0)
    obtain ⟨z0,z1,z2,z3,z4,z5,z6⟩:=zcK hz
    exact bodyPost_ret (v := .tuple #[.agg #[.string ⟨#[]⟩,.int .i64 0,.int .i64 0,.int .i64 0,.int .i64 0,.slice none 0 0,.slice none 0 0],.int .i64 12]) (by simp [results,Tryz.f19,go_sem,z0,z1,z2,z3,z4,z5,z6]) rfl ⟨zjm (((Zf w).alloc _).trans HRE.out) (Zg _) _ _ _ _ _ _ _,.inl ⟨HNO.out,rfl⟩⟩
 rcases hn with hn | hn
 ·exact key false _ (by rw [hn];rfl) rfl rfl
 ·exact key _ false rfl (by rw [hn];rfl) (by simp)
theorem zdI (s:List UInt8) (hs:s.length<=3000) (w:World):Calls Tryz.prog 19 #[.string ⟨s.toArray⟩] w (PparR s w):=by
 cases hc:cutR s with
 | none=>exact zgX s hs hc w
 | some ls =>
  by_cases h3:ls.length<3
  ·exact zgY s ls hs hc h3 w
  ·cases h0:hdrR (ls.getD 0 []) pw true 0 with
   | none=>exact zeb s ls hs hc (by omega) (.inl h0) w
   | some v0 =>
    cases h1:hdrR (ls.getD 1 []) gw false 4 with
    | none=>exact zeb s ls hs hc (by omega) (.inr h1) w
    | some v1 =>
     obtain ⟨nm,x⟩:=v0
     obtain ⟨y,g⟩:=v1
     exact zfZ s nm y x g ls hs hc (by omega) h0 h1 w
end Go.Proofs.YtkneghkbgingdaaGreatDoor
