/- Strings in memory; Index, Names, twice of the reference. -/
import Derived.Test.YtkneghkbgingdaaGreatDoorT34
import Derived.Test.YtkneghkbgingdaaGreatDoorT38
set_option maxHeartbeats 16000000
namespace Go.Proofs.YtkneghkbgingdaaGreatDoor
set_option maxRecDepth 100000
open Go.RowKit Go.ChangeShapes Go.WideShapes Go.Joins
def shStr1:Shp (List UInt8) where
 size:=1
 cells x:=[.string ⟨x.toArray⟩]
 pos:=by omega
 len _:=rfl
 one x u h:=by
  simp at h
  subst h
  rfl
theorem zfy:(Tryz.prog.info? 9).map (fun i=>(i.zero,i.size,i.bytes))=some (some (.string ⟨#[]⟩),1,16):=by kernel_rfl
def nmsL (g:Nat->List UInt8) (n:Nat):List (List UInt8):=(List.range n).map g
theorem zhT (g:Nat->List UInt8) (n:Nat):nmsL g (n+1)=nmsL g n++[g n]:=by
 unfold nmsL
 rw [List.range_succ,List.map_append]
 rfl
theorem zn0 {g:Nat->List UInt8} {n i:Nat} (h:i<n):(nmsL g n).getD i []=g i:=by
 unfold nmsL
 rw [Zc,List.getElem?_map,List.getElem?_range h]
 rfl
theorem zgs {g h:Nat->List UInt8} {i k:Nat} (hi:g i=h i) (hk:∀j,j<k->g j=h j):amongB g i k=amongB h i k:=by
 induction k with
 | zero=>rfl
 | succ k ih=>rw [zbZ,zbZ,ih (fun j hj=>hk j (by omega)),hi,hk k (by omega)]
theorem zg8 {g h:Nat->List UInt8} {n:Nat} (hk:∀j,j<n->g j=h j):twiceB g n=twiceB h n:=by
 induction n with
 | zero=>rfl
 | succ n ih=>rw [zbs,zbs,ih (fun j hj=>hk j (by omega)),zgs (hk n (by omega)) (fun j hj=>hk j (by omega))]
theorem zjs {g:Nat->List UInt8} {i k:Nat}:amongB g i k=true↔∃j,j<k/\g i=g j:=by
 unfold amongB
 rw [List.any_eq_true]
 constructor
 ·rintro ⟨j,h1,h2⟩
  exact ⟨j,ZP.1 h1,by simpa using h2⟩
 ·rintro ⟨j,h1,h2⟩
  exact ⟨j,ZP.2 h1,by simpa using h2⟩
theorem zoW {g:Nat->List UInt8} {x:List UInt8}:∀(n k i:Nat),k<=i->i<k+n->g i=x->(idxN g x n k<(i:Int)↔∃j,k<=j/\j<i/\g j=x):=by
 intro n
 induction n with
 | zero=>intro k i h1 h2;omega
 | succ n ih =>
  intro k i h1 h2 h3
  rw [idxN]
  by_cases hk:g k=x
  ·rw [if_pos hk]
   constructor
   ·intro h;exact ⟨k,Zg _,by omega,hk⟩
   ·rintro ⟨j,h4,h5,_⟩;omega
  ·rw [if_neg hk]
   have hki:k≠i:=by rintro rfl;exact hk h3
   rw [ih (k+1) i (by omega) (by omega) h3]
   constructor
   ·rintro ⟨j,h4,h5,h6⟩;exact ⟨j,by omega,h5,h6⟩
   ·rintro ⟨j,h4,h5,h6⟩
    have:j≠k:=by rintro rfl;exact hk h6
    exact ⟨j,by omega,h5,h6⟩
theorem zj4 {g:Nat->List UInt8} {n i:Nat} (hi:i<n):(idxN g (g i) n 0<(i:Int)↔amongB g i i=true):=by
 rw [zoW n 0 i (Zy _) (by omega) rfl,zjs]
 constructor
 ·rintro ⟨j,_,h1,h2⟩;exact ⟨j,h1,h2.symm⟩
 ·rintro ⟨j,h1,h2⟩;exact ⟨j,Zy _,h1,h2.symm⟩
theorem zlq {g:Nat->List UInt8} {n i:Nat} (hi:i<n) (h:amongB g i i=true):twiceB g n=true:=by
 unfold twiceB
 rw [List.any_eq_true]
 exact ⟨i,ZP.2 hi,h⟩
theorem Str.at_ {w:World} {A:Option Addr} {n:Nat} {l:List (List UInt8)} (h:Vec shStr1 w A n l) {k:Nat} (hk:k<n) :
  ∃(b off:Nat),A=some ⟨b,off,none⟩/\b<w.heap.size/\w.cell? ⟨b,off+k,none⟩=some (.string ⟨(l.getD k []).toArray⟩):=by
 obtain ⟨b,off,e,hlt,hc⟩:=h.2 (by omega)
 have hx:l[k]?=some (l.getD k []):=by
  rw [Zc,Zd (by rw [h.1];exact hk)];rfl
 have h9:=hc k _ hx 0 _ rfl
 exact ⟨b,off,e,hlt,by simpa [shStr1] using h9⟩
theorem zmI (A:Option Addr) (n c:Nat) (l:List (List UInt8)) (x:List UInt8) (w:World) (hl:Vec shStr1 w A n l) (hn:n<=100000) :
  Calls Tryz.prog 94 #[.slice A n c,.string ⟨x.toArray⟩] w fun e w'=>e = .returned (.int .i64 (idxN (fun i=>l.getD i []) x n 0))/\Ext w w':=by
 have HL:=Za hl
 obtain ⟨R,hR⟩:∃R,idxN (fun i=>l.getD i []) x n 0=R:=⟨_,rfl⟩
 have HR:=Za hR
 rw [hR]
 clear hl hR
 go_enter Tryz.func94,Tryz.ntmps94
 go_wp2_with fail
 go_loopw [5] (fun i wr=>∃k:Nat,i = .int .i64 (k:Int)/\k<=n/\Hid (R=idxN (fun i=>l.getD i []) x (n-k) k)/\Hid (Ext w wr)) (fun i _=>n-(intOf i).toNat)
 case atStart=>exact ⟨0,rfl,Zy _,Za HR.out.symm,Za (Zf _)⟩
 case round =>
  obtain ⟨k,rfl,hk,HI,HE⟩:=hrel
  obtain ⟨wa,rfl⟩:∃wa:World,wa=wr:=⟨_,rfl⟩
  have q0:(0:Int)<=(k:Int):=by omega
  by_cases hlt:k<n
  ·have q1:(k:Int)<(n:Int):=by omega
   obtain ⟨b,off,rfl,hb,c0⟩:=Str.at_ (HL.out.ext HE.out) hlt
   obtain ⟨m,hm⟩:∃m,n-k=m+1:=⟨n-k-1,by omega⟩
   have hI:=HI.out
   rw [hm,idxN] at hI
   have aa:n-(k+1)=m:=by omega
   obtain ⟨Y,hY⟩:∃Y,l.getD k []=Y:=⟨_,rfl⟩
   rw [hY] at c0
   by_cases hxy:Y=x
   ·rw [if_pos (hY.trans hxy)] at hI
    have HN:=Za hI
    have ab:(Y==x)=true:=by simpa using hxy
    clear hI hm aa hY hxy
    go_wp2_with fail
    go_ret
    exact ⟨by rw [HN.out];rfl,HE.out⟩
   ·rw [if_neg (fun h9=>hxy (hY.symm.trans h9)),<-aa] at hI
    have HN:=Za hI
    have ab:(Y==x)=false:=by simpa using hxy
    clear hI hm aa hY hxy
    go_wp2_with fail
    go_roundw
    case rel=>exact ⟨k+1,by go_num,by omega,HN,HE⟩
    case measure=>simp [intOf] <;> omega
  ·obtain rfl:n=k:=by omega
   have HN:=Za (show R = -1 by rw [HI.out,Nat.sub_self];rfl)
   go_wp2_with fail
   go_ret
   exact ⟨by rw [HN.out];rfl,HE.out⟩
theorem zb4 (A:Option Addr) (n c:Nat) (l:List (List UInt8)) (w:World) (hl:Vec shStr1 w A n l) (hn:n<=100000) :
  Calls Tryz.prog 65 #[.slice A n c] w fun e w'=>e = .returned (.bool (twiceB (fun i=>l.getD i []) n))/\Ext w w':=by
 have HL:=Za hl
 clear hl
 go_enter Tryz.func65,Tryz.ntmps65
 go_wp2_with fail
 go_loopw [3] (fun i wr=>∃k:Nat,i = .int .i64 (k:Int)/\k<=n/\Hid (twiceB (fun i=>l.getD i []) k=false)/\Hid (Ext w wr)) (fun i _=>n-(intOf i).toNat)
 case atStart=>exact ⟨0,rfl,Zy _,Za rfl,Za (Zf _)⟩
 case round =>
  obtain ⟨k,rfl,hk,HT,HE⟩:=hrel
  obtain ⟨wa,rfl⟩:∃wa:World,wa=wr:=⟨_,rfl⟩
  have q0:(0:Int)<=(k:Int):=by omega
  by_cases hlt:k<n
  ·have q1:(k:Int)<(n:Int):=by omega
   obtain ⟨b,off,rfl,hb,c0⟩:=Str.at_ (HL.out.ext HE.out) hlt
   have aa:=zj4 (g:=fun i=>l.getD i []) hlt
   have ab:=Za (fun (w':World) (h:Ext wa w')=>zmI (some ⟨b,off,none⟩) n c l (l.getD k []) w' (HL.out.ext (HE.out.trans h)) hn)
   obtain ⟨I,hI⟩:∃I,idxN (fun i=>l.getD i []) (l.getD k []) n 0=I:=⟨_,rfl⟩
   rw [hI] at aa ab
   obtain ⟨Y,hY⟩:∃Y,l.getD k []=Y:=⟨_,rfl⟩
   rw [hY] at c0 ab
   clear hY hI
   by_cases hlo:I<(k:Int)
   ·have HN:=Za (zlq hlt (aa.1 hlo))
    clear aa
    go_wp2_with (first
     | (go_at_call 94;((with_reducible refine (ab.out _ zx).mono ?_);rintro e w5 ⟨rfl,ac⟩)))
    go_ret
    exact ⟨by rw [HN.out];rfl,HE.out.trans zx⟩
   ·have HN:=Za (show twiceB (fun i=>l.getD i []) (k+1)=false by
     rw [zbs,HT.out,Bool.false_or,Bool.eq_false_iff]
     exact fun h9=>hlo (aa.2 h9))
    clear aa
    go_wp2_with (first
     | (go_at_call 94;((with_reducible refine (ab.out _ zx).mono ?_);rintro e w5 ⟨rfl,ac⟩)))
    go_roundw
    case rel=>exact ⟨k+1,by go_num,by omega,HN,Za (HE.out.trans zx)⟩
    case measure=>simp [intOf] <;> omega
  ·obtain rfl:n=k:=by omega
   go_wp2_with fail
   go_ret
   exact ⟨by rw [HT.out];rfl,HE.out⟩
end Go.Proofs.YtkneghkbgingdaaGreatDoor
/- Names and fine of the reference. -/
namespace Go.Proofs.YtkneghkbgingdaaGreatDoor
set_option maxRecDepth 100000
open Go.RowKit Go.ChangeShapes Go.WideShapes Go.Joins
def StrR (n:Nat) (l:List (List UInt8)) (w:World) (e:Ending) (w':World):Prop:=∃A c,e = .returned (.slice A n c)/\Vec shStr1 w' A n l/\Ext w w'
theorem ziY (nm:List UInt8) (g1 g2 g3 g4:Int) (As:Option Addr) (ns cs:Nat) (Ac:Option Addr) (nc cc:Nat) (se:List Sec) (w:World) (hc:Secs w Ac nc se) (hn2:nc<=10000) :
  Calls Tryz.prog 66 #[.agg #[.string ⟨nm.toArray⟩,.int .i64 g1,.int .i64 g2,.int .i64 g3,.int .i64 g4,.slice As ns cs,.slice Ac nc cc]] w (StrR nc (nmsL (seN se) nc) w):=by
 have ae:=Za hc
 have ad:=Za (BoxP.start w nm g1 g2 g3 g4 As ns cs Ac nc cc)
 have ac:=Za (show Ext w (w.alloc (.cells #[.string ⟨nm.toArray⟩,.int .i64 g1,.int .i64 g2,.int .i64 g3,.int .i64 g4,.slice As ns cs,.slice Ac nc cc] 42)) from (Zf w).alloc _)
 clear hc
 go_enter Tryz.func66,Tryz.ntmps66
 go_wp2_with fail
 go_loopw [3,4] (fun u i wr=>∃(V:Value) (k:Nat),V=u/\i = .int .i64 (k:Int)/\k<=nc/\Hid (OwnV shStr1 wr (w.alloc (.cells #[.string ⟨nm.toArray⟩,.int .i64 g1,.int .i64 g2,.int .i64 g3,.int .i64 g4,.slice As ns cs,.slice Ac nc cc] 42)).heap.size 9 V k (nmsL (seN se) k))/\Hid (Ext (w.alloc (.cells #[.string ⟨nm.toArray⟩,.int .i64 g1,.int .i64 g2,.int .i64 g3,.int .i64 g4,.slice As ns cs,.slice Ac nc cc] 42)) wr)) (fun _ i _=>nc-(intOf i).toNat)
 case atStart=>exact ⟨_,0,rfl,rfl,Zy _,Za (OwnV.nil _ _ _ _),Za (Zf _)⟩
 case round =>
  obtain ⟨V,k,rfl,rfl,hk,HO,HE⟩:=hrel
  obtain ⟨wa,rfl⟩:∃wa:World,wa=wr:=⟨_,rfl⟩
  obtain ⟨x0,x1,x2,x3,x4,x5,x6,xz⟩:=(ad.out.ext HE.out).facts
  have q0:(0:Int)<=(k:Int):=by omega
  by_cases hlt:k<nc
  ·have q1:(k:Int)<(nc:Int):=by omega
   obtain ⟨b',off,A',n',c',rfl,hb',c0,c1,c2,hr,hcap⟩:=(ae.out.ext (ac.out.trans HE.out)).at_ hlt
   have ab:=Za (zhT (seN se) k)
   obtain ⟨Y,hY⟩:∃Y,seN se k=Y:=⟨_,rfl⟩
   rw [hY] at c0 ab
   clear hY hr
   go_wp2_with (at_builtin;(refine zab (S:=shStr1) (w:=_) (m:=1) (c:=1) (L:=nmsL (seN se) k) (k:=k) (xs:=[Y]) 67 9 (.string ⟨#[]⟩) 16 (by rfl) (by rfl) Tryz.underlying67 zfy (by rfl) (by omega) (by rfl) (by rfl) (HO.out.ext zx) (HE.out.trans zx) (Vec.lit2 (by simp) rfl rfl) (by omega) ?_;intro v5 w5 aa ag hgr5))
   go_roundw
   case rel=>exact ⟨v5,k+1,rfl,by go_num,by omega,Za (by rw [ab.out];exact aa),Za ag.out⟩
   case measure=>simp [intOf] <;> omega
  ·obtain rfl:nc=k:=by omega
   go_wp2_with fail
   go_ret
   obtain ⟨A9,c9,e9,af, -⟩:=zaf HO.out
   exact ⟨A9,c9,congrArg Ending.returned e9,af,ac.out.trans HE.out⟩
theorem zgq {g:Nat->List UInt8} {n k:Nat} (hk:k<n) (h:wordS (g k)=false):wordsB g n=false:=by
 unfold wordsB
 rw [List.all_eq_false]
 exact ⟨k,ZP.2 hk,by rw [h];decide⟩
theorem ziO (nm:List UInt8) (g1 g2 g3 g4:Int) (As:Option Addr) (ns cs:Nat) (st:List Stf) (Ac:Option Addr) (nc cc:Nat) (se:List Sec) (w:World) (hs:Vec shStf w As ns st) (hc:Secs w Ac nc se)
  (hnl:nm.length<=100000) (hsl:∀i,i<ns->(stN st i).length<=100000) (hcl:∀i,i<nc->(seN se i).length<=100000) (hn1:ns<=10000) (hn2:nc<=10000) :
  Calls Tryz.prog 64 #[.agg #[.string ⟨nm.toArray⟩,.int .i64 g1,.int .i64 g2,.int .i64 g3,.int .i64 g4,.slice As ns cs,.slice Ac nc cc]] w fun e w'=>e = .returned (.bool (fineP nm (gerr g1 g2 g3 g4) st se))/\Ext w w':=by
 have ax:=Za hs.1
 have aw:=Za hc.len
 have aA:=Za hs
 have av:=Za hc
 have az:=Za hsl
 have au:=Za hcl
 have aa:=Za (BoxP.start w nm g1 g2 g3 g4 As ns cs Ac nc cc)
 have ac:=Za (show Ext w (w.alloc (.cells #[.string ⟨nm.toArray⟩,.int .i64 g1,.int .i64 g2,.int .i64 g3,.int .i64 g4,.slice As ns cs,.slice Ac nc cc] 42)) from (Zf w).alloc _)
 have ah:=Za (fun (w':World)=>zdL nm (by omega) w')
 have ai:=Za (fun (w':World)=>zgG g1 g2 g3 g4 w')
 have ab:=Za (show fineP nm (gerr g1 g2 g3 g4) st se=(wordS nm && wordsB (stN st) ns && wordsB (seN se) nc && decide (nc≠0) && decide (gerr g1 g2 g3 g4=0) && gramB st ns) by rw [fineP,ax.out,aw.out])
 obtain ⟨R,hR⟩:∃R,fineP nm (gerr g1 g2 g3 g4) st se=R:=⟨_,rfl⟩
 rw [hR] at ab
 rw [hR]
 obtain ⟨a1,e1⟩:∃a,wordS nm=a:=⟨_,rfl⟩
 obtain ⟨ge,e6⟩:∃a,gerr g1 g2 g3 g4=a:=⟨_,rfl⟩
 rw [e1,e6] at ab
 rw [e6] at ai
 rw [e1] at ah
 clear hs hc hsl hcl e1 e6 hR
 cases a1 with
 | false =>
  have HN:=Za (show R=false by rw [ab.out];simp)
  go_enter Tryz.func64,Tryz.ntmps64
  go_wp2_with (first
   | (go_at_call 92;((with_reducible refine (ah.out _).mono ?_);rintro e w3 ⟨rfl,ap⟩;obtain ⟨x0,x1,x2,x3,x4,x5,x6,xz⟩:=(aa.out.ext (zx:Ext _ w3)).facts)))
  go_ret
  exact ⟨by rw [HN.out];rfl,ac.out.trans zx⟩
 | true =>
  by_cases hg:ge=0
  case neg =>
   have HN:=Za (show R=false by rw [ab.out];simp [hg])
   have p4:(ge != 0)=true:=by simpa using hg
   clear hg
   go_enter Tryz.func64,Tryz.ntmps64
   go_wp2_with (first
    | (go_at_call 92;((with_reducible refine (ah.out _).mono ?_);rintro e w3 ⟨rfl,ap⟩;obtain ⟨x0,x1,x2,x3,x4,x5,x6,xz⟩:=(aa.out.ext (zx:Ext _ w3)).facts))
    | (go_at_call 93;((with_reducible refine (ai.out _).mono ?_);rintro e w4 ⟨rfl,ar⟩;obtain ⟨x0,x1,x2,x3,x4,x5,x6,xz⟩:=(aa.out.ext (zx:Ext _ w4)).facts)))
   go_ret
   exact ⟨by rw [HN.out];rfl,ac.out.trans zx⟩
  subst hg
  by_cases h0:nc=0
  ·have HN:=Za (show R=false by rw [ab.out];simp [h0])
   have p3:((nc:Int)==0)=true:=by simp [h0]
   clear h0
   go_enter Tryz.func64,Tryz.ntmps64
   go_wp2_with (first
    | (go_at_call 92;((with_reducible refine (ah.out _).mono ?_);rintro e w3 ⟨rfl,ap⟩;obtain ⟨x0,x1,x2,x3,x4,x5,x6,xz⟩:=(aa.out.ext (zx:Ext _ w3)).facts))
    | (go_at_call 93;((with_reducible refine (ai.out _).mono ?_);rintro e w4 ⟨rfl,ar⟩;obtain ⟨x0,x1,x2,x3,x4,x5,x6,xz⟩:=(aa.out.ext (zx:Ext _ w4)).facts)))
   go_ret
   exact ⟨by rw [HN.out];rfl,ac.out.trans zx⟩
  have p3:((nc:Int)==0)=false:=by rw [Ze];omega
  have ay:=Za h0
  clear h0
  go_enter Tryz.func64,Tryz.ntmps64
  go_wp2_with (first
   | (go_at_call 92;((with_reducible refine (ah.out _).mono ?_);rintro e w3 ⟨rfl,ap⟩;obtain ⟨x0,x1,x2,x3,x4,x5,x6,xz⟩:=(aa.out.ext (zx:Ext _ w3)).facts))
   | (go_at_call 93;((with_reducible refine (ai.out _).mono ?_);rintro e w4 ⟨rfl,ar⟩;obtain ⟨x0,x1,x2,x3,x4,x5,x6,xz⟩:=(aa.out.ext (zx:Ext _ w4)).facts)))
  go_loopw [3] (fun v wr=>∃k:Nat,v = .int .i64 (k:Int)/\k<=ns/\Hid (gramB st k=true/\wordsB (stN st) k=true)/\Hid (Ext (w.alloc (.cells #[.string ⟨nm.toArray⟩,.int .i64 g1,.int .i64 g2,.int .i64 g3,.int .i64 g4,.slice As ns cs,.slice Ac nc cc] 42)) wr)) (fun v _=>ns-(intOf v).toNat)
  case atStart=>exact ⟨0,rfl,Zy _,Za ⟨rfl,rfl⟩,Za zx⟩
  case round =>
   obtain ⟨k,rfl,hk,HG,HE⟩:=hrel
   obtain ⟨wa,rfl⟩:∃wa:World,wa=wr:=⟨_,rfl⟩
   obtain ⟨x0,x1,x2,x3,x4,x5,x6,xz⟩:=(aa.out.ext HE.out).facts
   have q0:(0:Int)<=(k:Int):=by omega
   by_cases hlt:k<ns
   ·have q1:(k:Int)<(ns:Int):=by omega
    have ak:=az.out k hlt
    obtain ⟨b',off,rfl,aB,c0,c1⟩:=Stf.at_ (aA.out.ext (ac.out.trans HE.out)) hlt
    have af:=Za (zb6 (stN st) k)
    obtain ⟨Y,hY⟩:∃Y,stN st k=Y:=⟨_,rfl⟩
    rw [hY] at c0 ak af
    have HY:=Za hY
    obtain ⟨gk,ao⟩:∃gk,(st.getD k stf0).g=gk:=⟨_,rfl⟩
    rw [ao] at c1
    have aj:=Za ao
    obtain ⟨z,hz⟩:∃z,wordS Y=z:=⟨_,rfl⟩
    rw [hz] at af
    have ad:=Za (fun (w':World)=>zdL Y (by omega) w')
    rw [hz] at ad
    have HZ:=Za hz
    clear ao hY hz
    cases z with
    | false =>
     have HN:=Za (show R=false by rw [ab.out,zgq hlt (by rw [HY.out];exact HZ.out)];simp)
     go_wp2_with (first
      | (go_at_call 92;((with_reducible refine (ad.out _).mono ?_);rintro e w5 ⟨rfl,ae⟩;obtain ⟨x0,x1,x2,x3,x4,x5,x6,xz⟩:=(aa.out.ext (HE.out.trans (zx):Ext _ w5)).facts;obtain ⟨al,am,an⟩:=ae.facts)))
     go_ret
     exact ⟨by rw [HN.out];rfl,ac.out.trans (HE.out.trans zx)⟩
    | true =>
     by_cases hlo:gk<1
     ·have HN:=Za (show R=false by rw [ab.out,zc6 hlt (by rw [aj.out];omega)];simp)
      go_wp2_with (first
       | (go_at_call 92;((with_reducible refine (ad.out _).mono ?_);rintro e w5 ⟨rfl,ae⟩;obtain ⟨x0,x1,x2,x3,x4,x5,x6,xz⟩:=(aa.out.ext (HE.out.trans (zx):Ext _ w5)).facts;obtain ⟨al,am,an⟩:=ae.facts)))
      go_ret
      exact ⟨by rw [HN.out];rfl,ac.out.trans (HE.out.trans zx)⟩
     ·by_cases hhi:100000<gk
      ·have HN:=Za (show R=false by rw [ab.out,zc6 hlt (by rw [aj.out];omega)];simp)
       go_wp2_with (first
        | (go_at_call 92;((with_reducible refine (ad.out _).mono ?_);rintro e w5 ⟨rfl,ae⟩;obtain ⟨x0,x1,x2,x3,x4,x5,x6,xz⟩:=(aa.out.ext (HE.out.trans (zx):Ext _ w5)).facts;obtain ⟨al,am,an⟩:=ae.facts)))
       go_ret
       exact ⟨by rw [HN.out];rfl,ac.out.trans (HE.out.trans zx)⟩
      ·have HN:=Za (show gramB st (k+1)=true/\wordsB (stN st) (k+1)=true from ⟨by rw [zfw,HG.out.1,aj.out,ZW (show 1<=gk/\gk<=100000 by omega)];rfl,by rw [af.out,HG.out.2];rfl⟩)
       go_wp2_with (first
        | (go_at_call 92;((with_reducible refine (ad.out _).mono ?_);rintro e w5 ⟨rfl,ae⟩;obtain ⟨x0,x1,x2,x3,x4,x5,x6,xz⟩:=(aa.out.ext (HE.out.trans (zx):Ext _ w5)).facts;obtain ⟨al,am,an⟩:=ae.facts)))
       go_roundw
       case rel=>exact ⟨k+1,by go_num,by omega,HN,Za (HE.out.trans zx)⟩
       case measure=>simp [intOf] <;> omega
   ·obtain rfl:ns=k:=by omega
    go_wp2_with fail
    go_loopw [4] (fun v wr=>∃j:Nat,v = .int .i64 (j:Int)/\j<=nc/\Hid (wordsB (seN se) j=true)/\Hid (Ext (w.alloc (.cells #[.string ⟨nm.toArray⟩,.int .i64 g1,.int .i64 g2,.int .i64 g3,.int .i64 g4,.slice As ns cs,.slice Ac nc cc] 42)) wr)) (fun v _=>nc-(intOf v).toNat)
    case atStart=>exact ⟨0,rfl,Zy _,Za rfl,HE⟩
    case round =>
     clear x0 x1 x2 x3 x4 x5 x6 xz
     obtain ⟨j,rfl,hj,aq,ag⟩:=hrel
     obtain ⟨wb,rfl⟩:∃wb:World,wb=wr:=⟨_,rfl⟩
     obtain ⟨x0,x1,x2,x3,x4,x5,x6,xz⟩:=(aa.out.ext ag.out).facts
     have r0:(0:Int)<=(j:Int):=by omega
     by_cases hjl:j<nc
     ·have r1:(j:Int)<(nc:Int):=by omega
      have ak:=au.out j hjl
      obtain ⟨b',off,A',n',c',rfl,aB,c0,c1,c2,hr,hcap⟩:=(av.out.ext (ac.out.trans ag.out)).at_ hjl
      have af:=Za (zb6 (seN se) j)
      obtain ⟨Y,hY⟩:∃Y,seN se j=Y:=⟨_,rfl⟩
      rw [hY] at c0 ak af
      have HY:=Za hY
      obtain ⟨z,hz⟩:∃z,wordS Y=z:=⟨_,rfl⟩
      rw [hz] at af
      have ad:=Za (fun (w':World)=>zdL Y (by omega) w')
      rw [hz] at ad
      have HZ:=Za hz
      clear hY hz hr
      cases z with
      | false =>
       have HN:=Za (show R=false by rw [ab.out,zgq hjl (by rw [HY.out];exact HZ.out)];simp)
       go_wp2_with (first
        | (go_at_call 92;((with_reducible refine (ad.out _).mono ?_);rintro e w5 ⟨rfl,ae⟩)))
       go_ret
       exact ⟨by rw [HN.out];rfl,ac.out.trans (ag.out.trans zx)⟩
      | true =>
       have HN:=Za (show wordsB (seN se) (j+1)=true by rw [af.out,aq.out];rfl)
       go_wp2_with (first
        | (go_at_call 92;((with_reducible refine (ad.out _).mono ?_);rintro e w5 ⟨rfl,ae⟩)))
       go_roundw
       case rel=>exact ⟨j+1,by go_num,by omega,HN,Za (ag.out.trans zx)⟩
       case measure=>simp [intOf] <;> omega
     ·obtain rfl:nc=j:=by omega
      have HN:=Za (show R=true by rw [ab.out,HG.out.1,HG.out.2,aq.out];simp [ay.out])
      go_wp2_with fail
      go_ret
      exact ⟨by rw [HN.out];rfl,ac.out.trans ag.out⟩
end Go.Proofs.YtkneghkbgingdaaGreatDoor
/- The Check of patterns,the reference's. -/
namespace Go.Proofs.YtkneghkbgingdaaGreatDoor
set_option maxRecDepth 100000
open Go.RowKit Go.ChangeShapes Go.WideShapes Go.Joins
theorem zgi (g:Nat->List UInt8) (n:Nat):twiceB (fun i=>(nmsL g n).getD i []) n=twiceB g n:=zg8 fun _ hj=>zn0 hj
theorem zdH (nm:List UInt8) (g1 g2 g3 g4:Int) (As:Option Addr) (ns cs:Nat) (st:List Stf) (Ac:Option Addr) (nc cc:Nat) (se:List Sec) (w:World) (hs:Vec shStf w As ns st) (hc:Secs w Ac nc se)
  (hnl:nm.length<=100000) (hsl:∀i,i<ns->(stN st i).length<=100000) (hcl:∀i,i<nc->(seN se i).length<=100000) (hn1:ns<=10000) (hn2:nc<=10000) :
  Calls Tryz.prog 33 #[.agg #[.string ⟨nm.toArray⟩,.int .i64 g1,.int .i64 g2,.int .i64 g3,.int .i64 g4,.slice As ns cs,.slice Ac nc cc]] w fun e w'=>e = .returned (.int .i64 (patE nm (gerr g1 g2 g3 g4) st se))/\Ext w w':=by
 have aj:=Za hs.1
 have ae:=Za hc.len
 have av:=Za hs
 have an:=Za hc
 have aa:=Za (BoxP.start w nm g1 g2 g3 g4 As ns cs Ac nc cc)
 have ab:=Za (show Ext w (w.alloc (.cells #[.string ⟨nm.toArray⟩,.int .i64 g1,.int .i64 g2,.int .i64 g3,.int .i64 g4,.slice As ns cs,.slice Ac nc cc] 42)) from (Zf w).alloc _)
 obtain ⟨a,ha⟩:∃a,fineP nm (gerr g1 g2 g3 g4) st se=a:=⟨_,rfl⟩
 have ao:=Za (fun (w':World) (hx:Ext (w.alloc (.cells #[.string ⟨nm.toArray⟩,.int .i64 g1,.int .i64 g2,.int .i64 g3,.int .i64 g4,.slice As ns cs,.slice Ac nc cc] 42)) w')=>ziO nm g1 g2 g3 g4 As ns cs st Ac nc cc se w' (av.out.ext (ab.out.trans hx)) (an.out.ext (ab.out.trans hx)) hnl hsl hcl hn1 hn2)
 rw [ha] at ao
 have HA:=Za ha
 obtain ⟨R,hR⟩:∃R,patE nm (gerr g1 g2 g3 g4) st se=R:=⟨_,rfl⟩
 have HR:=Za hR
 rw [hR]
 clear hs hc hsl hcl hR ha
 by_cases h20:20<ns
 ·have HN:=Za (show R=4 by rw [<-HR.out];exact zc9 (.inl (by rw [aj.out];exact h20)))
  have p1:(20:Int)<(ns:Int):=by omega
  clear h20
  go_enter Tryz.func33,Tryz.ntmps33
  go_wp2_with fail
  go_ret
  exact ⟨by rw [HN.out];rfl,zx⟩
 have p1:¬((20:Int)<(ns:Int)):=by omega
 by_cases h21:20<nc
 ·have HN:=Za (show R=4 by rw [<-HR.out];exact zc9 (.inr (by rw [ae.out];exact h21)))
  have p2:(20:Int)<(nc:Int):=by omega
  clear h20 h21
  go_enter Tryz.func33,Tryz.ntmps33
  go_wp2_with fail
  go_ret
  exact ⟨by rw [HN.out];rfl,zx⟩
 have p2:¬((20:Int)<(nc:Int)):=by omega
 have ak:=Za (show ¬(20<st.length∨20<se.length) by rw [aj.out,ae.out];omega)
 clear h20 h21
 cases a with
 | false =>
  have HN:=Za (show R=8 by rw [<-HR.out];exact zbP ak.out HA.out)
  go_enter Tryz.func33,Tryz.ntmps33
  go_wp2_with (first
   | (go_at_call 64;((with_reducible refine (ao.out _ zx).mono ?_);rintro e w3 ⟨rfl,aD⟩;obtain ⟨x0,x1,x2,x3,x4,x5,x6,xz⟩:=(aa.out.ext (zx:Ext _ w3)).facts)))
  go_ret
  exact ⟨by rw [HN.out];rfl,ab.out.trans zx⟩
 | true =>
  go_enter Tryz.func33,Tryz.ntmps33
  go_wp2_with (first
   | (go_at_call 64;((with_reducible refine (ao.out _ zx).mono ?_);rintro e w3 ⟨rfl,aD⟩;obtain ⟨x0,x1,x2,x3,x4,x5,x6,xz⟩:=(aa.out.ext (zx:Ext _ w3)).facts)))
  go_loopw [3,4] (fun u i wr=>∃(V:Value) (k:Nat),V=u/\i = .int .i64 (k:Int)/\k<=ns/\Hid (OwnV shStr1 wr (w.alloc (.cells #[.string ⟨nm.toArray⟩,.int .i64 g1,.int .i64 g2,.int .i64 g3,.int .i64 g4,.slice As ns cs,.slice Ac nc cc] 42)).heap.size 9 V k (nmsL (stN st) k))/\Hid (Ext (w.alloc (.cells #[.string ⟨nm.toArray⟩,.int .i64 g1,.int .i64 g2,.int .i64 g3,.int .i64 g4,.slice As ns cs,.slice Ac nc cc] 42)) wr)) (fun _ i _=>ns-(intOf i).toNat)
  case atStart=>exact ⟨_,0,rfl,rfl,Zy _,Za (OwnV.nil _ _ _ _),Za zx⟩
  case round =>
   obtain ⟨V,k,rfl,rfl,hk,HO,HE⟩:=hrel
   obtain ⟨wa,rfl⟩:∃wa:World,wa=wr:=⟨_,rfl⟩
   obtain ⟨x0,x1,x2,x3,x4,x5,x6,xz⟩:=(aa.out.ext HE.out).facts
   have q0:(0:Int)<=(k:Int):=by omega
   by_cases hlt:k<ns
   ·have q1:(k:Int)<(ns:Int):=by omega
    obtain ⟨b',off,rfl,aC,c0,c1⟩:=Stf.at_ (av.out.ext (ab.out.trans HE.out)) hlt
    have ar:=Za (zhT (stN st) k)
    obtain ⟨Y,hY⟩:∃Y,stN st k=Y:=⟨_,rfl⟩
    rw [hY] at c0 ar
    clear hY c1
    go_wp2_with (at_builtin;(refine zab (S:=shStr1) (w:=_) (m:=1) (c:=1) (L:=nmsL (stN st) k) (k:=k) (xs:=[Y]) 67 9 (.string ⟨#[]⟩) 16 (by rfl) (by rfl) Tryz.underlying67 zfy (by rfl) (by omega) (by rfl) (by rfl) (HO.out.ext zx) (HE.out.trans zx) (Vec.lit2 (by simp) rfl rfl) (by omega) ?_;intro v5 w5 ai aF hgr5))
    go_roundw
    case rel=>exact ⟨v5,k+1,rfl,by go_num,by omega,Za (by rw [ar.out];exact ai),Za aF.out⟩
    case measure=>simp [intOf] <;> omega
   ·obtain rfl:ns=k:=by omega
    obtain ⟨A9,c9,rfl,aB, -⟩:=zaf HO.out
    obtain ⟨t1,e4⟩:∃t,twiceB (stN st) ns=t:=⟨_,rfl⟩
    obtain ⟨t2,e5⟩:∃t,twiceB (seN se) nc=t:=⟨_,rfl⟩
    have al:=Za (fun (w':World) (hx:Ext wa w')=>zb4 A9 ns c9 (nmsL (stN st) ns) w' (aB.ext hx) (by omega))
    rw [zgi,e4] at al
    have aq:=Za ((zgi (seN se) nc).trans e5)
    have ap:=Za (fun (w':World) (hx:Ext wa w')=>ziY nm g1 g2 g3 g4 As ns cs Ac nc cc se w' (an.out.ext ((ab.out.trans HE.out).trans hx)) hn2)
    have aw:=Za e4
    have ax:=Za e5
    clear aB e4 e5 HO
    cases t1 with
    | true =>
     have HN:=Za (show R=14 by rw [<-HR.out];exact zco ak.out HA.out (.inl (by rw [aj.out];exact aw.out)))
     go_wp2_with (first
      | (go_at_call 65;(first | ((with_reducible refine (al.out _ zx).mono ?_);rintro e w6 ⟨rfl,ay⟩;obtain ⟨x0,x1,x2,x3,x4,x5,x6,xz⟩:=(aa.out.ext (HE.out.trans (zx):Ext _ w6)).facts) | (((with_reducible refine (zb4 A7 nc c7 (nmsL (seN se) nc) _ (ag.out.ext zx) (by omega)).mono ?_);rintro e w8 ⟨rfl,aA⟩;rw [aq.out];obtain ⟨x0,x1,x2,x3,x4,x5,x6,xz⟩:=(aa.out.ext (HE.out.trans (zx):Ext _ w8)).facts))))
      | (go_at_call 66;((with_reducible refine (ap.out _ zx).mono ?_);rintro e w7 ⟨A7,c7,rfl,ac,az⟩;have ag:=Za ac;clear ac;obtain ⟨x0,x1,x2,x3,x4,x5,x6,xz⟩:=(aa.out.ext (HE.out.trans (zx):Ext _ w7)).facts)))
     go_ret
     exact ⟨by rw [HN.out];rfl,ab.out.trans (HE.out.trans zx)⟩
    | false =>
     cases t2 with
     | true =>
      have HN:=Za (show R=14 by rw [<-HR.out];exact zco ak.out HA.out (.inr (by rw [ae.out];exact ax.out)))
      go_wp2_with (first
       | (go_at_call 65;(first | ((with_reducible refine (al.out _ zx).mono ?_);rintro e w6 ⟨rfl,ay⟩;obtain ⟨x0,x1,x2,x3,x4,x5,x6,xz⟩:=(aa.out.ext (HE.out.trans (zx):Ext _ w6)).facts) | (((with_reducible refine (zb4 A7 nc c7 (nmsL (seN se) nc) _ (ag.out.ext zx) (by omega)).mono ?_);rintro e w8 ⟨rfl,aA⟩;rw [aq.out];obtain ⟨x0,x1,x2,x3,x4,x5,x6,xz⟩:=(aa.out.ext (HE.out.trans (zx):Ext _ w8)).facts))))
       | (go_at_call 66;((with_reducible refine (ap.out _ zx).mono ?_);rintro e w7 ⟨A7,c7,rfl,ac,az⟩;have ag:=Za ac;clear ac;obtain ⟨x0,x1,x2,x3,x4,x5,x6,xz⟩:=(aa.out.ext (HE.out.trans (zx):Ext _ w7)).facts)))
      go_ret
      exact ⟨by rw [HN.out];rfl,ab.out.trans (HE.out.trans zx)⟩
     | false =>
      have HN:=Za (show R=firstE se nc 0 by rw [<-HR.out,zfI ak.out HA.out (by rw [aj.out];exact aw.out) (by rw [ae.out];exact ax.out),ae.out])
      go_wp2_with (first
       | (go_at_call 65;(first | ((with_reducible refine (al.out _ zx).mono ?_);rintro e w6 ⟨rfl,ay⟩;obtain ⟨x0,x1,x2,x3,x4,x5,x6,xz⟩:=(aa.out.ext (HE.out.trans (zx):Ext _ w6)).facts) | (((with_reducible refine (zb4 A7 nc c7 (nmsL (seN se) nc) _ (ag.out.ext zx) (by omega)).mono ?_);rintro e w8 ⟨rfl,aA⟩;rw [aq.out];obtain ⟨x0,x1,x2,x3,x4,x5,x6,xz⟩:=(aa.out.ext (HE.out.trans (zx):Ext _ w8)).facts))))
       | (go_at_call 66;((with_reducible refine (ap.out _ zx).mono ?_);rintro e w7 ⟨A7,c7,rfl,ac,az⟩;have ag:=Za ac;clear ac;obtain ⟨x0,x1,x2,x3,x4,x5,x6,xz⟩:=(aa.out.ext (HE.out.trans (zx):Ext _ w7)).facts)))
      go_loopw [5] (fun v wr=>∃j:Nat,v = .int .i64 (j:Int)/\j<=nc/\Hid (R=firstE se (nc-j) j)/\Hid (Ext (w.alloc (.cells #[.string ⟨nm.toArray⟩,.int .i64 g1,.int .i64 g2,.int .i64 g3,.int .i64 g4,.slice As ns cs,.slice Ac nc cc] 42)) wr)) (fun v _=>nc-(intOf v).toNat)
      case atStart=>exact ⟨0,rfl,Zy _,HN,Za (HE.out.trans zx)⟩
      case round =>
       clear x0 x1 x2 x3 x4 x5 x6 xz HN
       obtain ⟨j,rfl,hj,HF,ad⟩:=hrel
       obtain ⟨wb,rfl⟩:∃wb:World,wb=wr:=⟨_,rfl⟩
       obtain ⟨x0,x1,x2,x3,x4,x5,x6,xz⟩:=(aa.out.ext ad.out).facts
       have p5:(0:Int)<=(j:Int):=by omega
       by_cases hjl:j<nc
       ·have p6:(j:Int)<(nc:Int):=by omega
        obtain ⟨b',off,A',n',c',rfl,aC,c0,c1,c2,hr,hcap⟩:=(an.out.ext (ab.out.trans ad.out)).at_ hjl
        have au:=Za hr
        obtain ⟨m,hm⟩:∃m,nc-j=m+1:=⟨nc-j-1,by omega⟩
        have HM:=Za (show nc-(j+1)=m by omega)
        have ah:=HF.out
        rw [hm] at ah
        generalize seN se j=Y at c0
        obtain ⟨S,hS⟩:∃S,(se.getD j sec0).s=S:=⟨_,rfl⟩
        obtain ⟨L,hL⟩:∃L,(se.getD j sec0).rows=L:=⟨_,rfl⟩
        rw [hS] at c1
        rw [hL] at au
        obtain ⟨x,hx⟩:∃x,chkC S L=x:=⟨_,rfl⟩
        have am:=Za (fun (w':World) (h:Ext wb w')=>zcb S A' n' c' L w' (au.out.ext h))
        rw [hx] at am
        by_cases hx0:x=0
        ·have af:=Za (show R=firstE se (nc-(j+1)) (j+1) by rw [HM.out,ah,zhE (by rw [hS,hL,hx];exact hx0)])
         subst hx0
         clear hS hL hx hm ah hr
         go_wp2_with (first
          | (go_at_call 30;((with_reducible refine (am.out _ zx).mono ?_);rintro e w5 ⟨rfl,aE⟩)))
         go_roundw
         case rel=>exact ⟨j+1,by go_num,by omega,af,Za (ad.out.trans zx)⟩
         case measure=>simp [intOf] <;> omega
        ·have af:=Za (show R=x by rw [ah,zfu (by rw [hS,hL,hx];exact hx0),hS,hL,hx])
         have p7:(x != 0)=true:=by simpa using hx0
         clear hS hL hx hm ah hr hx0
         go_wp2_with (first
          | (go_at_call 30;((with_reducible refine (am.out _ zx).mono ?_);rintro e w5 ⟨rfl,aE⟩)))
         go_ret
         exact ⟨by rw [af.out];rfl,ab.out.trans (ad.out.trans zx)⟩
       ·obtain rfl:nc=j:=by omega
        have af:=Za (show R=0 by rw [HF.out,Nat.sub_self];rfl)
        go_wp2_with fail
        go_ret
        exact ⟨by rw [af.out];rfl,ab.out.trans ad.out⟩
end Go.Proofs.YtkneghkbgingdaaGreatDoor
/- Text of the reference. -/
namespace Go.Proofs.YtkneghkbgingdaaGreatDoor
set_option maxRecDepth 100000
open Go.RowKit Go.ChangeShapes Go.WideShapes Go.Joins
theorem zcB (g:Int) (h0:0<=g) (h1:g<=1000000) (w:World):Calls Tryz.prog 42 #[.int .i64 g] w fun e w'=>e = .returned (.string ⟨(decD g.toNat).toArray⟩)/\Ext w w':=by
 obtain ⟨n,rfl⟩:∃n:Nat,g=(n:Int):=⟨g.toNat,by omega⟩
 exact zad n (by omega) w
theorem zkZ (nm:List UInt8) (g1 g2 g3 g4:Int) (As:Option Addr) (ns cs:Nat) (st:List Stf) (Ac:Option Addr) (nc cc:Nat) (se:List Sec) (w:World) (hs:Vec shStf w As ns st) (hc:Secs w Ac nc se)
  (hnl:nm.length<=100000) (hsl:∀i,i<ns->(stN st i).length<=100000) (hcl:∀i,i<nc->(seN se i).length<=100000) (hn1:ns<=10000) (hn2:nc<=10000) {x:Int} (hx:patE nm (gerr g1 g2 g3 g4) st se=x) (h0:x≠0) :
  Calls Tryz.prog 17 #[.agg #[.string ⟨nm.toArray⟩,.int .i64 g1,.int .i64 g2,.int .i64 g3,.int .i64 g4,.slice As ns cs,.slice Ac nc cc]] w (PtxR nm (gerr g1 g2 g3 g4) g1 g2 g3 g4 st se w):=by
 have ae:=Za hs
 have ac:=Za hc
 have aa:=Za (show Ext w (w.alloc (.cells #[.string ⟨nm.toArray⟩,.int .i64 g1,.int .i64 g2,.int .i64 g3,.int .i64 g4,.slice As ns cs,.slice Ac nc cc] 42)) from (Zf w).alloc _)
 have ab:=Za (fun (w':World) (hx:Ext (w.alloc (.cells #[.string ⟨nm.toArray⟩,.int .i64 g1,.int .i64 g2,.int .i64 g3,.int .i64 g4,.slice As ns cs,.slice Ac nc cc] 42)) w')=>zdH nm g1 g2 g3 g4 As ns cs st Ac nc cc se w' (ae.out.ext (aa.out.trans hx)) (ac.out.ext (aa.out.trans hx)) hnl hsl hcl hn1 hn2)
 rw [hx] at ab
 have HV:=Za (zkF (g1:=g1) (g2:=g2) (g3:=g3) (g4:=g4) hx h0)
 have hne:(x != 0)=true:=by simpa using h0
 clear hs hc hsl hcl hx h0
 go_enter Tryz.func17,Tryz.ntmps17
 go_wp2_with (first
  | (go_at_call 33;((with_reducible refine (ab.out _ zx).mono ?_);rintro e w1 ⟨rfl,hq1⟩;have ad:=Za (zx:Ext (w.alloc (.cells #[.string ⟨nm.toArray⟩,.int .i64 g1,.int .i64 g2,.int .i64 g3,.int .i64 g4,.slice As ns cs,.slice Ac nc cc] 42)) w1))))
 go_ret2
 exact PtxR.mk_ HV.out (aa.out.trans ad.out)
theorem zgZ (nm:List UInt8) (g1 g2 g3 g4:Int) (As:Option Addr) (ns cs:Nat) (st:List Stf) (Ac:Option Addr) (nc cc:Nat) (se:List Sec) (w:World) (hs:Vec shStf w As ns st) (hc:Secs w Ac nc se)
  (hnl:nm.length<=100000) (hsl:∀i,i<ns->(stN st i).length<=100000) (hcl:∀i,i<nc->(seN se i).length<=100000) (hn1:ns<=10000) (hn2:nc<=10000) (hk:SecCaps w Ac nc)
  (hge:gerr g1 g2 g3 g4=0->(0<=g1/\g1<=100000)/\(0<=g2/\g2<=100000)/\(0<=g3/\g3<=100000)/\(0<=g4/\g4<=100000)) (h0:patE nm (gerr g1 g2 g3 g4) st se=0) :
  Calls Tryz.prog 17 #[.agg #[.string ⟨nm.toArray⟩,.int .i64 g1,.int .i64 g2,.int .i64 g3,.int .i64 g4,.slice As ns cs,.slice Ac nc cc]] w (PtxR nm (gerr g1 g2 g3 g4) g1 g2 g3 g4 st se w):=by
 have aD:=Za hs.1
 have aW:=Za hc.len
 have aX:=Za hs
 have aQ:=Za hc
 have HK:=Za hk
 have ai:=Za (BoxP.start w nm g1 g2 g3 g4 As ns cs Ac nc cc)
 have ap:=Za (show Ext w (w.alloc (.cells #[.string ⟨nm.toArray⟩,.int .i64 g1,.int .i64 g2,.int .i64 g3,.int .i64 g4,.slice As ns cs,.slice Ac nc cc] 42)) from (Zf w).alloc _)
 have aP:=Za (fun (w':World) (hx:Ext (w.alloc (.cells #[.string ⟨nm.toArray⟩,.int .i64 g1,.int .i64 g2,.int .i64 g3,.int .i64 g4,.slice As ns cs,.slice Ac nc cc] 42)) w')=>zdH nm g1 g2 g3 g4 As ns cs st Ac nc cc se w' (aX.out.ext (ap.out.trans hx)) (aQ.out.ext (ap.out.trans hx)) hnl hsl hcl hn1 hn2)
 rw [h0] at aP
 obtain ⟨f1,f2,f3,f4,f5,f6⟩:=znp h0
 obtain ⟨⟨a1,b1⟩,⟨a2,b2⟩,⟨a3,b3⟩,⟨a4,b4⟩⟩:=hge f4
 have aR:=Za (fun (w':World)=>zcB g1 a1 (by omega) w')
 have aS:=Za (fun (w':World)=>zcB g2 a2 (by omega) w')
 have aT:=Za (fun (w':World)=>zcB g3 a3 (by omega) w')
 have aU:=Za (fun (w':World)=>zcB g4 a4 (by omega) w')
 have m1:=zac g1.toNat
 have m2:=zac g2.toNat
 have m3:=zac g3.toNat
 have m4:=zac g4.toNat
 have hns:ns<=20:=by rw [<-aD.out];exact f1
 have hnc:nc<=20:=by rw [<-aW.out];exact f2
 have H0:=Za h0
 have a7:=Za f5
 have a8:=Za f6
 have aN:=TxSt.start nm g1 g2 g3 g4 st se
 have aM:gaugeL g1 g2 g3 g4=gw++32::(decD g1.toNat++32::(decD g2.toNat++32::(decD g3.toNat++32::decD g4.toNat))):=rfl
 obtain ⟨D1,hD1⟩:∃D,decD g1.toNat=D:=⟨_,rfl⟩
 obtain ⟨D2,hD2⟩:∃D,decD g2.toNat=D:=⟨_,rfl⟩
 obtain ⟨D3,hD3⟩:∃D,decD g3.toNat=D:=⟨_,rfl⟩
 obtain ⟨D4,hD4⟩:∃D,decD g4.toNat=D:=⟨_,rfl⟩
 rw [hD1] at aR m1
 rw [hD2] at aS m2
 rw [hD3] at aT m3
 rw [hD4] at aU m4
 rw [hD1,hD2,hD3,hD4] at aM
 clear hs hc hsl hcl hge h0 f1 f2 f4 f5 f6 hk a1 a2 a3 a4 b1 b2 b3 b4 hn1 hn2 hnl
 obtain ⟨Q1,aw⟩:∃S,([112,97,116,116,101,114,110,32]:List UInt8)++nm=S:=⟨_,rfl⟩
 have kQ1:(⟨#[112,97,116,116,101,114,110,32]⟩++⟨nm.toArray⟩:ByteArray)=⟨Q1.toArray⟩:=by rw [<-aw];exact zaa [112,97,116,116,101,114,110,32] nm
 have eQ1:Q1.length<=8+nm.length:=by rw [<-aw,Zb];exact Zg _
 obtain ⟨Q2,ax⟩:∃S,Q1++([10,103,97,117,103,101,32]:List UInt8)=S:=⟨_,rfl⟩
 have kQ2:(⟨Q1.toArray⟩++⟨#[10,103,97,117,103,101,32]⟩:ByteArray)=⟨Q2.toArray⟩:=by rw [<-ax];exact zaa Q1 [10,103,97,117,103,101,32]
 have eQ2:Q2.length<=Q1.length+7:=by rw [<-ax,Zb];exact Zg _
 obtain ⟨Q3,hQ3⟩:∃S,Q2++D1=S:=⟨_,rfl⟩
 have kQ3:(⟨Q2.toArray⟩++⟨D1.toArray⟩:ByteArray)=⟨Q3.toArray⟩:=by rw [<-hQ3];exact zaa Q2 D1
 have eQ3:Q3.length<=Q2.length+D1.length:=by rw [<-hQ3,Zb];exact Zg _
 obtain ⟨Q4,ay⟩:∃S,Q3++([32]:List UInt8)=S:=⟨_,rfl⟩
 have kQ4:(⟨Q3.toArray⟩++⟨#[32]⟩:ByteArray)=⟨Q4.toArray⟩:=by rw [<-ay];exact zaa Q3 [32]
 have eQ4:Q4.length<=Q3.length+1:=by rw [<-ay,Zb];exact Zg _
 obtain ⟨Q5,hQ5⟩:∃S,Q4++D2=S:=⟨_,rfl⟩
 have kQ5:(⟨Q4.toArray⟩++⟨D2.toArray⟩:ByteArray)=⟨Q5.toArray⟩:=by rw [<-hQ5];exact zaa Q4 D2
 have eQ5:Q5.length<=Q4.length+D2.length:=by rw [<-hQ5,Zb];exact Zg _
 obtain ⟨Q6,az⟩:∃S,Q5++([32]:List UInt8)=S:=⟨_,rfl⟩
 have kQ6:(⟨Q5.toArray⟩++⟨#[32]⟩:ByteArray)=⟨Q6.toArray⟩:=by rw [<-az];exact zaa Q5 [32]
 have eQ6:Q6.length<=Q5.length+1:=by rw [<-az,Zb];exact Zg _
 obtain ⟨Q7,hQ7⟩:∃S,Q6++D3=S:=⟨_,rfl⟩
 have kQ7:(⟨Q6.toArray⟩++⟨D3.toArray⟩:ByteArray)=⟨Q7.toArray⟩:=by rw [<-hQ7];exact zaa Q6 D3
 have eQ7:Q7.length<=Q6.length+D3.length:=by rw [<-hQ7,Zb];exact Zg _
 obtain ⟨Q8,aA⟩:∃S,Q7++([32]:List UInt8)=S:=⟨_,rfl⟩
 have kQ8:(⟨Q7.toArray⟩++⟨#[32]⟩:ByteArray)=⟨Q8.toArray⟩:=by rw [<-aA];exact zaa Q7 [32]
 have eQ8:Q8.length<=Q7.length+1:=by rw [<-aA,Zb];exact Zg _
 obtain ⟨Q9,hQ9⟩:∃S,Q8++D4=S:=⟨_,rfl⟩
 have kQ9:(⟨Q8.toArray⟩++⟨D4.toArray⟩:ByteArray)=⟨Q9.toArray⟩:=by rw [<-hQ9];exact zaa Q8 D4
 have eQ9:Q9.length<=Q8.length+D4.length:=by rw [<-hQ9,Zb];exact Zg _
 obtain ⟨Q10,ac⟩:∃S,Q9++([10]:List UInt8)=S:=⟨_,rfl⟩
 have kQ10:(⟨Q9.toArray⟩++⟨#[10]⟩:ByteArray)=⟨Q10.toArray⟩:=by rw [<-ac];exact zaa Q9 [10]
 have eQ10:Q10.length<=Q9.length+1:=by rw [<-ac,Zb];exact Zg _
 have vQ1:¬9223372036854775807<8+nm.length:=by omega
 have vQ2:¬9223372036854775807<Q1.length+7:=by omega
 have vQ3:¬9223372036854775807<Q2.length+D1.length:=by omega
 have vQ4:¬9223372036854775807<Q3.length+1:=by omega
 have vQ5:¬9223372036854775807<Q4.length+D2.length:=by omega
 have vQ6:¬9223372036854775807<Q5.length+1:=by omega
 have vQ7:¬9223372036854775807<Q6.length+D3.length:=by omega
 have vQ8:¬9223372036854775807<Q7.length+1:=by omega
 have vQ9:¬9223372036854775807<Q8.length+D4.length:=by omega
 have vQ10:¬9223372036854775807<Q9.length+1:=by omega
 have HH:=Za (show Q10=pw++32::nm++10::(gaugeL g1 g2 g3 g4++10::[]) by
  rw [aM,<-ac,<-hQ9,<-aA,<-hQ7,<-az,<-hQ5,<-ay,<-hQ3,<-ax,<-aw]
  simp [pw,gw])
 have hHl:Q10.length<=300:=by omega
 clear aM hD1 hD2 hD3 hD4 aN aw ax hQ3 ay hQ5 az hQ7 aA hQ9 ac
 go_enter Tryz.func17,Tryz.ntmps17
 go_wp2_with (first
  | (go_at_call 33;((with_reducible refine (aP.out _ zx).mono ?_);rintro e w1 ⟨rfl,hq1⟩;have aV:=Za (zx:Ext (w.alloc (.cells #[.string ⟨nm.toArray⟩,.int .i64 g1,.int .i64 g2,.int .i64 g3,.int .i64 g4,.slice As ns cs,.slice Ac nc cc] 42)) w1);obtain ⟨x0,x1,x2,x3,x4,x5,x6,xz⟩:=(ai.out.ext aV.out).facts)))
 clear hq1
 go_region_held3 (fun wx=>wx.cell? ⟨w.heap.size,0,none⟩=some (.string ⟨nm.toArray⟩)/\wx.cell? ⟨w.heap.size,1,none⟩=some (.int .i64 g1)/\wx.cell? ⟨w.heap.size,2,none⟩=some (.int .i64 g2)/\wx.cell? ⟨w.heap.size,3,none⟩=some (.int .i64 g3)/\wx.cell? ⟨w.heap.size,4,none⟩=some (.int .i64 g4)) (go_keep) (first
  | (go_at_call 42;first
   | ((fail_if_success (have h0:=aq.out));((with_reducible refine (aR.out _).mono ?_);rintro e w2 ⟨rfl,hq2⟩;have aq:=Za (aV.out.trans (zx:Ext w1 w2));clear hq2;obtain ⟨y0,y1,y2,y3,y4,y5,y6,yz⟩:=(ai.out.ext aq.out).facts))
   | ((fail_if_success (have h0:=ar.out));((with_reducible refine (aS.out _).mono ?_);rintro e w3 ⟨rfl,bg⟩;have ar:=Za (aq.out.trans (zx:Ext w2 w3));clear bg;obtain ⟨y0,y1,y2,y3,y4,y5,y6,yz⟩:=(ai.out.ext ar.out).facts))
   | ((fail_if_success (have h0:=au.out));((with_reducible refine (aT.out _).mono ?_);rintro e w4 ⟨rfl,bh⟩;have au:=Za (ar.out.trans (zx:Ext w3 w4));clear bh;obtain ⟨y0,y1,y2,y3,y4,y5,y6,yz⟩:=(ai.out.ext au.out).facts))
   | ((with_reducible refine (aU.out _).mono ?_);rintro e w5 ⟨rfl,bi⟩;have aG:=Za (au.out.trans (zx:Ext w4 w5));clear bi;obtain ⟨y0,y1,y2,y3,y4,y5,y6,yz⟩:=(ai.out.ext aG.out).facts)))
 clear x0 x1 x2 x3 x4 x5 x6 xz y0 y1 y2 y3 y4 y5 y6 yz kQ1 vQ1 kQ2 vQ2 kQ3 vQ3 kQ4 vQ4 kQ5 vQ5 kQ6 vQ6 kQ7 vQ7 kQ8 vQ8 kQ9 vQ9 kQ10 vQ10
 have ba:=aG
 clear aq ar au aG
 go_wp2_with fail
 go_loopw [5,6] (fun v u wr=>∃(i:Nat) (T:List UInt8),v = .string ⟨T.toArray⟩/\u = .int .i64 (i:Int)/\i<=ns/\T.length<=300+100*i/\Hid (T=Q10++stufT (st.take i))/\Hid (Ext (w.alloc (.cells #[.string ⟨nm.toArray⟩,.int .i64 g1,.int .i64 g2,.int .i64 g3,.int .i64 g4,.slice As ns cs,.slice Ac nc cc] 42)) wr)) (fun _ u _=>ns-(intOf u).toNat)
 case atStart=>exact ⟨0,Q10,rfl,rfl,by omega,by omega,Za (by simp [stufT,unl]),ba⟩
 case round =>
  obtain ⟨i,T,rfl,rfl,hi,hTl,aY,av⟩:=hrel
  obtain ⟨wb,rfl⟩:∃wb:World,wb=wr:=⟨_,rfl⟩
  have aI:=Za (ap.out.trans av.out)
  have q0:(0:Int)<=(i:Int):=by omega
  obtain ⟨x0,x1,x2,x3,x4,x5,x6,xz⟩:=(ai.out.ext av.out).facts
  by_cases hlt:i<ns
  ·have q1:(i:Int)<(ns:Int):=by omega
   obtain ⟨b,off,rfl,hb,d0,d1⟩:=Stf.at_ (aX.out.ext aI.out) hlt
   have bf:=aD.out
   obtain ⟨ak,hg1,be⟩:=a7.out i (by omega)
   have am:=zeg (st:=st) (k:=i) (by omega)
   obtain ⟨N,hN⟩:∃N,stN st i=N:=⟨_,rfl⟩
   obtain ⟨gr,a0⟩:∃gr,(st.getD i stf0).g=gr:=⟨_,rfl⟩
   rw [hN] at d0 ak am
   rw [a0] at d1 hg1 be am
   have an:=Za (fun (w':World)=>zcB gr (by omega) (by omega) w')
   have aL:=zac gr.toNat
   unfold line3 at am
   obtain ⟨D,hD⟩:∃D,decD gr.toNat=D:=⟨_,rfl⟩
   rw [hD] at an aL am
   obtain ⟨R1,ad⟩:∃S,T++([115,116,117,102,102,32]:List UInt8)=S:=⟨_,rfl⟩
   have kR1:(⟨T.toArray⟩++⟨#[115,116,117,102,102,32]⟩:ByteArray)=⟨R1.toArray⟩:=by rw [<-ad];exact zaa T [115,116,117,102,102,32]
   have eR1:R1.length<=T.length+6:=by rw [<-ad,Zb];exact Zg _
   obtain ⟨R2,hR2⟩:∃S,R1++N=S:=⟨_,rfl⟩
   have kR2:(⟨R1.toArray⟩++⟨N.toArray⟩:ByteArray)=⟨R2.toArray⟩:=by rw [<-hR2];exact zaa R1 N
   have eR2:R2.length<=R1.length+N.length:=by rw [<-hR2,Zb];exact Zg _
   obtain ⟨R3,ae⟩:∃S,R2++([32]:List UInt8)=S:=⟨_,rfl⟩
   have kR3:(⟨R2.toArray⟩++⟨#[32]⟩:ByteArray)=⟨R3.toArray⟩:=by rw [<-ae];exact zaa R2 [32]
   have eR3:R3.length<=R2.length+1:=by rw [<-ae,Zb];exact Zg _
   obtain ⟨R4,hR4⟩:∃S,R3++D=S:=⟨_,rfl⟩
   have kR4:(⟨R3.toArray⟩++⟨D.toArray⟩:ByteArray)=⟨R4.toArray⟩:=by rw [<-hR4];exact zaa R3 D
   have eR4:R4.length<=R3.length+D.length:=by rw [<-hR4,Zb];exact Zg _
   obtain ⟨R5,af⟩:∃S,R4++([10]:List UInt8)=S:=⟨_,rfl⟩
   have kR5:(⟨R4.toArray⟩++⟨#[10]⟩:ByteArray)=⟨R5.toArray⟩:=by rw [<-af];exact zaa R4 [10]
   have eR5:R5.length<=R4.length+1:=by rw [<-af,Zb];exact Zg _
   have vR1:¬9223372036854775807<T.length+6:=by omega
   have vR2:¬9223372036854775807<R1.length+N.length:=by omega
   have vR3:¬9223372036854775807<R2.length+1:=by omega
   have vR4:¬9223372036854775807<R3.length+D.length:=by omega
   have vR5:¬9223372036854775807<R4.length+1:=by omega
   have aF:=Za (show R5=Q10++stufT (st.take (i+1)) by
    rw [am,<-af,<-hR4,<-ae,<-hR2,<-ad,aY.out]
    simp [sw])
   have i5:=Zh ((i:Int)+1) (by omega)
   clear hN a0 am hD bf ad hR2 ae hR4 af
   go_wp2_with fail
   go_region_held3 (fun wx=>wx.cell? ⟨w.heap.size,5,none⟩=some (.slice (some ⟨b,off,none⟩) ns cs)/\wx.cell? ⟨b,off+i*2,none⟩=some (.string ⟨N.toArray⟩)/\wx.cell? ⟨b,off+i*2+1,none⟩=some (.int .i64 gr)) (go_keep) (first
    | (go_at_call 42;((with_reducible refine (an.out _).mono ?_);rintro e w6 ⟨rfl,a5⟩;have al:=(zx:Ext wb w6);have aJ:=Za al;obtain ⟨aj,bd,bm⟩:=al.facts;have z0:=(aj _ _ hb).trans d0;have z1:=(aj _ _ hb).trans d1;have z5:=(aj _ _ xz).trans x5;clear al)))
   all_goals
    go_wp2_with fail
    go_roundw
    case rel=>exact ⟨i+1,R5,by go_num,by go_num,by omega,by omega,aF,Za (av.out.trans aJ.out)⟩
    case measure=>simp [intOf] <;> omega
  ·obtain rfl:ns=i:=by omega
   have a9:=Za (show TxSt nm g1 g2 g3 g4 st se 0 T by
    have h9:=TxSt.start nm g1 g2 g3 g4 st se
    rw [aY.out,ZE (by rw [aD.out];omega),HH.out]
    simpa using h9)
   have q1:¬((ns:Int)<(ns:Int)):=by omega
   go_wp2_with fail
   clear x0 x1 x2 x3 x4 x5 x6 xz
   go_loopw [5,7] (fun v u wr=>∃(i:Nat) (T:List UInt8),v = .string ⟨T.toArray⟩/\u = .int .i64 (i:Int)/\i<=nc/\T.length<=3000+61000*i/\Hid (TxSt nm g1 g2 g3 g4 st se i T)/\Hid (Ext (w.alloc (.cells #[.string ⟨nm.toArray⟩,.int .i64 g1,.int .i64 g2,.int .i64 g3,.int .i64 g4,.slice As ns cs,.slice Ac nc cc] 42)) wr)) (fun _ u _=>nc-(intOf u).toNat)
   case atStart=>exact ⟨0,T,rfl,rfl,by omega,by omega,a9,Za (av.out.trans zx)⟩
   case round =>
    obtain ⟨j,T,rfl,rfl,hj,hTl3,aE,aH⟩:=hrel
    obtain ⟨wc,rfl⟩:∃wc:World,wc=wr:=⟨_,rfl⟩
    have aa:=Za (ap.out.trans aH.out)
    have q0:(0:Int)<=(j:Int):=by omega
    obtain ⟨x0,x1,x2,x3,x4,x5,x6,xz⟩:=(ai.out.ext aH.out).facts
    have aB:=aW.out
    by_cases hlt:j<nc
    ·have q1:(j:Int)<(nc:Int):=by omega
     obtain ⟨b,off,A',n',c',rfl,hb,d0,d1,d2,a6, -⟩:=(aQ.out.ext aa.out).at_ hlt
     have ah:=(HK.out.ext aa.out).at_ hlt d2
     obtain ⟨ak,aZ⟩:=a8.out j (by omega)
     obtain ⟨-,bj,hs1, -⟩:=zdp aZ
     have ab:=fun h=>aE.out.next (by omega) h
     have aC:=fun h=>aE.out.none (by omega) h
     have bk:=zfU (s:=(se.getD j sec0).s) (l:=(se.getD j sec0).rows)
     rw [show (se.getD j sec0).nm=seN se j from rfl] at ab
     obtain ⟨N,hN⟩:∃N,seN se j=N:=⟨_,rfl⟩
     rw [hN] at d0 ak ab
     generalize (se.getD j sec0).s=sc at *
     generalize (se.getD j sec0).rows=rw_ at *
     have ao:=Za (fun (w':World) (h:Ext wc w')=>zk0 sc A' n' c' rw_ w' (a6.ext h) (ah.ext h))
     unfold PRowsR at ao
     obtain ⟨V,hV⟩:∃V,rowsV sc rw_=V:=⟨_,rfl⟩
     obtain ⟨E,hE⟩:∃E,rowsE sc rw_=E:=⟨_,rfl⟩
     rw [hV,hE] at ao ab
     rw [hE] at aC
     rw [hV] at bk
     clear hN hV hE a6 aZ ah
     by_cases hE0:E=0
     ·subst hE0
      have ab:=ab rfl
      have an:=Za (fun (w':World)=>zcB sc bj (by omega) w')
      have aL:=zac sc.toNat
      unfold line3 at ab
      obtain ⟨D,hD⟩:∃D,decD sc.toNat=D:=⟨_,rfl⟩
      rw [hD] at an aL ab
      obtain ⟨R1,ad⟩:∃S,T++([115,101,99,116,105,111,110,32]:List UInt8)=S:=⟨_,rfl⟩
      have kR1:(⟨T.toArray⟩++⟨#[115,101,99,116,105,111,110,32]⟩:ByteArray)=⟨R1.toArray⟩:=by rw [<-ad];exact zaa T [115,101,99,116,105,111,110,32]
      have eR1:R1.length<=T.length+8:=by rw [<-ad,Zb];exact Zg _
      obtain ⟨R2,hR2⟩:∃S,R1++N=S:=⟨_,rfl⟩
      have kR2:(⟨R1.toArray⟩++⟨N.toArray⟩:ByteArray)=⟨R2.toArray⟩:=by rw [<-hR2];exact zaa R1 N
      have eR2:R2.length<=R1.length+N.length:=by rw [<-hR2,Zb];exact Zg _
      obtain ⟨R3,ae⟩:∃S,R2++([32]:List UInt8)=S:=⟨_,rfl⟩
      have kR3:(⟨R2.toArray⟩++⟨#[32]⟩:ByteArray)=⟨R3.toArray⟩:=by rw [<-ae];exact zaa R2 [32]
      have eR3:R3.length<=R2.length+1:=by rw [<-ae,Zb];exact Zg _
      obtain ⟨R4,hR4⟩:∃S,R3++D=S:=⟨_,rfl⟩
      have kR4:(⟨R3.toArray⟩++⟨D.toArray⟩:ByteArray)=⟨R4.toArray⟩:=by rw [<-hR4];exact zaa R3 D
      have eR4:R4.length<=R3.length+D.length:=by rw [<-hR4,Zb];exact Zg _
      obtain ⟨R5,af⟩:∃S,R4++([10]:List UInt8)=S:=⟨_,rfl⟩
      have kR5:(⟨R4.toArray⟩++⟨#[10]⟩:ByteArray)=⟨R5.toArray⟩:=by rw [<-af];exact zaa R4 [10]
      have eR5:R5.length<=R4.length+1:=by rw [<-af,Zb];exact Zg _
      obtain ⟨R6,hR6⟩:∃S,R5++V=S:=⟨_,rfl⟩
      have kR6:(⟨R5.toArray⟩++⟨V.toArray⟩:ByteArray)=⟨R6.toArray⟩:=by rw [<-hR6];exact zaa R5 V
      have eR6:R6.length<=R5.length+V.length:=by rw [<-hR6,Zb];exact Zg _
      have vR1:¬9223372036854775807<T.length+8:=by omega
      have vR2:¬9223372036854775807<R1.length+N.length:=by omega
      have vR3:¬9223372036854775807<R2.length+1:=by omega
      have vR4:¬9223372036854775807<R3.length+D.length:=by omega
      have vR5:¬9223372036854775807<R4.length+1:=by omega
      have vR6:¬9223372036854775807<R5.length+V.length:=by omega
      have aF:=Za (show TxSt nm g1 g2 g3 g4 st se (j+1) R6 by
       rw [<-hR6,<-af,<-hR4,<-ae,<-hR2,<-ad]
       simpa [cw] using ab)
      have i5:=Zh ((j:Int)+1) (by omega)
      clear ab aC hD ad hR2 ae hR4 af hR6 aB
      go_wp2_with (first
       | (go_at_call 11;((with_reducible refine (ao.out _ zx).mono ?_);rintro e w6 ⟨rfl,a5⟩;have al:=(zx:Ext wc w6);have aJ:=Za al;obtain ⟨aj,bd,bm⟩:=al.facts;have z0:=(aj _ _ hb).trans d0;have z1:=(aj _ _ hb).trans d1;have z6:=(aj _ _ xz).trans x6;clear al)))
      go_region_held3 (fun wx=>wx.cell? ⟨w.heap.size,6,none⟩=some (.slice (some ⟨b,off,none⟩) nc cc)/\wx.cell? ⟨b,off+j*3,none⟩=some (.string ⟨N.toArray⟩)/\wx.cell? ⟨b,off+j*3+1,none⟩=some (.int .i64 sc)) (go_keep) (first
       | (go_at_call 42;((with_reducible refine (an.out _).mono ?_);rintro e w7 ⟨rfl,hq7⟩;have aO:=aJ.out.trans (zx:Ext w6 w7);have bc:=Za aO;obtain ⟨aK,hf7,hz7⟩:=aO.facts;have z0:=(aK _ _ hb).trans d0;have z1:=(aK _ _ hb).trans d1;have z6:=(aK _ _ xz).trans x6;clear aO)))
      all_goals
       go_wp2_with fail
       go_roundw
       case rel=>exact ⟨j+1,R6,by go_num,by go_num,by omega,by omega,aF,Za (aH.out.trans bc.out)⟩
       case measure=>simp [intOf] <;> omega
     ·have HV:=Za (zh1 (g1:=g1) (g2:=g2) (g3:=g3) (g4:=g4) H0.out (aC hE0))
      have hne:(E != 0)=true:=by simpa using hE0
      clear ab aC hE0 aB
      go_wp2_with (first
       | (go_at_call 11;((with_reducible refine (ao.out _ zx).mono ?_);rintro e w6 ⟨rfl,a5⟩;have bb:=Za (zx:Ext wc w6))))
      go_ret2
      exact PtxR.mk_ HV.out (aa.out.trans bb.out)
    ·obtain rfl:nc=j:=by omega
     have ag:=aE.out.fin (by omega)
     have q1:¬((nc:Int)<(nc:Int)):=by omega
     by_cases hl6:60000<T.length
     ·have HV:=Za (zh0 H0.out ag hl6)
      have p3:(60000:Int)<(T.length:Int):=by omega
      clear ag aB
      go_wp2_with fail
      go_ret2
      exact PtxR.mk_ HV.out aa.out
     ·have HV:=Za (zeN H0.out ag hl6)
      have p3:¬((60000:Int)<(T.length:Int)):=by omega
      clear ag aB
      go_wp2_with fail
      go_ret2
      exact PtxR.mk_ HV.out aa.out
theorem zec (nm:List UInt8) (g1 g2 g3 g4:Int) (As:Option Addr) (ns cs:Nat) (st:List Stf) (Ac:Option Addr) (nc cc:Nat) (se:List Sec) (w:World) (hs:Vec shStf w As ns st) (hc:Secs w Ac nc se)
  (hnl:nm.length<=100000) (hsl:∀i,i<ns->(stN st i).length<=100000) (hcl:∀i,i<nc->(seN se i).length<=100000) (hn1:ns<=10000) (hn2:nc<=10000) (hk:SecCaps w Ac nc)
  (hge:gerr g1 g2 g3 g4=0->(0<=g1/\g1<=100000)/\(0<=g2/\g2<=100000)/\(0<=g3/\g3<=100000)/\(0<=g4/\g4<=100000)) :
  Calls Tryz.prog 17 #[.agg #[.string ⟨nm.toArray⟩,.int .i64 g1,.int .i64 g2,.int .i64 g3,.int .i64 g4,.slice As ns cs,.slice Ac nc cc]] w (PtxR nm (gerr g1 g2 g3 g4) g1 g2 g3 g4 st se w):=by
 by_cases h0:patE nm (gerr g1 g2 g3 g4) st se=0
 ·exact zgZ nm g1 g2 g3 g4 As ns cs st Ac nc cc se w hs hc hnl hsl hcl hn1 hn2 hk hge h0
 ·exact zkZ nm g1 g2 g3 g4 As ns cs st Ac nc cc se w hs hc hnl hsl hcl hn1 hn2 rfl h0
end Go.Proofs.YtkneghkbgingdaaGreatDoor
