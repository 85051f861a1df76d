/- words: read. -/
import Derived.Test.YtbjgpbojjhldaaaGreatDoorY20
import Derived.Deep.CutBlock
set_option maxHeartbeats 16000000
namespace Go.Proofs.YtbjgpbojjhldaaaGreatDoor
set_option maxRecDepth 100000
open Go.RowKit Go.ChangeShapes Go.WideShapes Go.Joins
def RdPh (x:Option (St×Nat)) (w:World) (e:Ending) (w':World):Prop:=Ext w w'/\e=match x with
 | none => .returned (.tuple #[.agg #[.int .u8 0,.bool false,.int .i64 0,.int .i64 0],.int .i64 0,.bool false])
 | some (x,n) => .returned (.tuple #[.agg #[.int .u8 x.k,.bool x.p,.int .i64 x.a,.int .i64 x.b],.int .i64 (n:Int),.bool true])
def restW (s:List UInt8) (f:Nat) (k:Int):Nat->Option (St×Nat)
 | 0=>match tryW s k false with
  | some x=>some x
  | none=>match tryW s k true with
   | some x=>some x
   | none=>triesW s f (k+1)
 | 1=>match tryW s k true with
  | some x=>some x
  | none=>triesW s f (k+1)
 | _=>triesW s f (k+1)
theorem zrw (s:List UInt8) (f:Nat) (k:Int):restW s f k 0=triesW s (f+1) k:=rfl
theorem zcD {s:List UInt8} {f:Nat} {k:Int} {d:Nat} {p:Bool} (hd:(d=0/\p=false)∨(d=1/\p=true)) (h:tryW s k p=none):restW s f k d=restW s f k (d+1):=by
 rcases hd with ⟨rfl,rfl⟩ | ⟨rfl,rfl⟩
 ·rw [restW,h];rfl
 ·rw [restW,h];rfl
theorem zny {s:List UInt8} {f:Nat} {k:Int} {d:Nat} {p:Bool} {x:St×Nat} (hd:(d=0/\p=false)∨(d=1/\p=true)) (h:tryW s k p=some x):restW s f k d=some x:=by
 rcases hd with ⟨rfl,rfl⟩ | ⟨rfl,rfl⟩
 ·rw [restW,h]
 ·rw [restW,h]
theorem zql {k:Int} (p:Bool) (hk:kindB k=true):spl 35 (frmB k p)=segs k p/\(segs k p).length<=4/\(cntB k=true->(segs k p).length=2)/\1<=(segs k p).length/\(segs k p).length<=3:=by
 rcases zad hk with e | e | e | e | e | e | e | e | e | e <;> subst e <;> cases p <;> decide
theorem zlx {s:List UInt8} {k:Int} {p:Bool} (h:mtG (segs k p) false s []=none):tryW s k p=none:=by rw [tryW,h]
theorem zqs {s:List UInt8} {k:Int} {p:Bool} {l:List Nat} {r:List UInt8} {n:Nat} {r2:List UInt8} (h:mtG (segs k p) false s []=some (l,r)) (he:endW k l r=(n,r2))
  (hb:¬(r2=[]/\1<=n/\n<=200/\okSt (stW k p l)=true/\phW (stW k p l) n=s)):tryW s k p=none:=by
 rw [tryW,h]
 simp only
 rw [he]
 exact if_neg hb
theorem znU {s:List UInt8} {k:Int} {p:Bool} {l:List Nat} {r:List UInt8} {n:Nat} (h:mtG (segs k p) false s []=some (l,r)) (he:endW k l r=(n,[]))
  (h1:1<=n) (h2:n<=200) (h3:okSt (stW k p l)=true) (h4:phW (stW k p l) n=s):tryW s k p=some (stW k p l,n):=by
 rw [tryW,h]
 simp only
 rw [he]
 exact if_pos ⟨rfl,h1,h2,h3,h4⟩
theorem zrI {k:Int} {p:Bool} {l:List Nat} (hc:cntB k=false) (hl:l.length<=2):(l=[]/\(stW k p l).a=0/\(stW k p l).b=0)∨(∃a:Nat,l=[a]/\(stW k p l).a=a/\(stW k p l).b=0)∨∃a b:Nat,l=[a,b]/\(stW k p l).a=a/\(stW k p l).b=b:=by
 rcases l with _ | ⟨a,_ | ⟨b,_ | ⟨c,t⟩⟩⟩
 ·left;simp [stW,hc]
 ·right;left;exact ⟨a,rfl,by simp [stW,hc]⟩
 ·right;right;exact ⟨a,b,rfl,by simp [stW,hc]⟩
 ·simp at hl
theorem zqo {k:Int} {p:Bool} {l:List Nat} (hc:cntB k=true) (hl:l.length=1):∃a:Nat,l=[a]/\(stW k p l).a=0/\(stW k p l).b=0:=by
 rcases l with _ | ⟨a,_ | ⟨b,t⟩⟩
 ·simp at hl
 ·exact ⟨a,rfl,by simp [stW,hc]⟩
 ·simp at hl
theorem zdN {k:Int} {p:Bool} {l:List Nat}:(stW k p l).k=k/\(stW k p l).p=p:=by
 unfold stW
 split
 ·exact ⟨rfl,rfl⟩
 ·split <;> exact ⟨rfl,rfl⟩
theorem zm2:∀(ps:List (List UInt8)) (b:Bool) (s:List UInt8) (acc l:List Nat) (r:List UInt8),mtG ps b s acc=some (l,r)->(∀n∈acc,n<10000)->(∀n∈l,n<10000)/\r.length<=s.length:=by
 intro ps
 induction ps with
 | nil=>intro b s acc l r h ha;simp only [mtG,Option.some.injEq,Prod.mk.injEq] at h;rw [<-h.1,<-h.2];exact ⟨ha,Zb _⟩
 | cons p ps ih =>
  intro b s acc l r h ha
  cases b with
  | false =>
   rw [zhC] at h
   split at h
   ·cases h
   ·rename_i r2 hc
    have h9:=ih _ _ _ _ _ h ha
    have h8:=zb3 hc
    exact ⟨h9.1,by omega⟩
  | true =>
   rw [zhD] at h
   split at h
   ·cases h
   ·split at h
    ·cases h
    ·rename_i r2 hc
     have h9:=ih _ _ _ _ _ h (fun n hn=>by
      rcases ZQ.1 hn with g | g
      ·exact ha n g
      ·simp only [List.mem_singleton] at g
       subst g
       exact zcF (zbJ 4 s).2.2 (by rw [Zw];have:=(zbJ 4 s).1;omega))
     have h8:=zb3 hc
     rw [ZA] at h8
     exact ⟨h9.1,by omega⟩
theorem zlL (s:List UInt8) (hs:s.length<=3000) (w:World) (hg:Glob w) :
  Calls Tryz.prog 144 #[.string ⟨s.toArray⟩] w (RdPh (readPh s) w):=by
 obtain ⟨x0,hx0⟩:∃x,readPh s=x:=⟨_,rfl⟩
 rw [hx0]
 have bi:=Za hx0
 have HG:=Za hg
 clear hx0 hg
 go_enter Tryz.func144,Tryz.ntmps144
 go_wp2_with fail
 have HB:=Za (Bx.new w (.int .u8 0) (.bool false) (.int .i64 0) (.int .i64 0) 92)
 obtain ⟨W0,aD⟩:∃W0,w.alloc (.cells #[.int .u8 0,.bool false,.int .i64 0,.int .i64 0] 92)=W0:=⟨_,rfl⟩
 have ar:=Za (show Ext w W0 by rw [<-aD];exact (Ze _).alloc _)
 rw [aD] at HB ⊢
 have bb:=Za (show w.heap.size<W0.heap.size by rw [<-aD];simp)
 clear aD
 go_loopw [5] (fun kk wr=>∃(k:Nat),kk = .int .u8 k/\1<=k/\k<=11/\Hid (Ext W0 wr)/\Hid (triesW s (11-k) (k:Int)=x0)) (fun kk _=>11-(intOf kk).toNat)
 case atStart=>exact ⟨1,rfl,by omega,by omega,Za (Ze _),bi⟩
 case round =>
  obtain ⟨k,rfl,hk1,hk2,HE,HT⟩:=hrel
  by_cases hlt:k<11
  ·have q1:(k:Int)<=10:=by omega
   have bh:=Za (show restW s (10-k) (k:Int) 0=x0 by rw [zrw,show 10-k+1=11-k by omega];exact HT.out)
   have aE:kindB (k:Int)=true:=zq5 (by omega) (by omega)
   have bg:=Za (fun p=>zql p aE)
   have aL:=Za (fun p w'=>zfZ (k:Int) p aE w')
   have a9:=Za (fun p=>zgq p aE)
   obtain ⟨cb,aO⟩:∃cb,cntB (k:Int)=cb:=⟨_,rfl⟩
   rw [aO] at aL
   have aw:=Za aO
   clear aE HT aO
   go_wp2_with fail
   go_loopw [20] (fun dd wr=>∃(d:Nat),dd = .int .i64 d/\d<=2/\Hid (Ext W0 wr)/\Hid (restW s (10-k) (k:Int) d=x0)) (fun dd _=>2-(intOf dd).toNat)
   case atStart=>exact ⟨0,rfl,by omega,HE,bh⟩
   case round =>
    obtain ⟨d,rfl,hd2,ad,HR⟩:=hrel
    by_cases hd:d<2
    ·have aT:=Za (show ∃p:Bool,(d=0/\p=false)∨(d=1/\p=true) from by
      rcases ZX d 1 with h | h
      ·exact ⟨false,.inl ⟨by omega,rfl⟩⟩
      ·exact ⟨true,.inr ⟨by omega,rfl⟩⟩)
     obtain ⟨p,aP⟩:=aT.out
     have aj:=Za aP
     obtain ⟨hF,a2,a0,aZ,a1⟩:=bg.out p
     have aV:=Za (fun w' hg'=>zi5 (frmB (k:Int) p) (segs (k:Int) p) hF (by have:=a9.out p;omega) a2 s (by omega) w' hg')
     have a8:=Za a0
     have ay:=Za (show 1<=(segs (k:Int) p).length/\(segs (k:Int) p).length<=3 from ⟨aZ,a1⟩)
     clear hF a2 a0 aZ a1 aT
     have q2:(d:Int)<2:=by omega
     have qd:((d:Int)==1)=p:=by rcases aP with ⟨rfl,rfl⟩ | ⟨rfl,rfl⟩ <;> rfl
     clear aP
     have HB2:=Za (HB.out.ext ad.out)
     cases hm:mtG (segs (k:Int) p) false s [] with
     | none =>
      have ao:=Za (zlx hm)
      go_wp2_with (first
       | (go_at_call 128;((with_reducible refine (aL.out p _).mono ?_);rintro e w1 ⟨rfl,aC⟩))
       | (go_at_call 179;((with_reducible refine (aV.out _ (HG.out.ext (ar.out.trans (ad.out.trans zx)))).mono ?_);rintro e w2 ⟨aF,h2⟩;rw [hm] at h2;simp only at h2;subst h2)))
      go_roundw
      case rel=>exact ⟨d+1,by go_num,by omega,Za (ad.out.trans zx),Za (by rw [<-zcD aj.out ao.out];exact HR.out)⟩
      case measure=>simp [intOf];omega
     | some lr =>
      obtain ⟨l,r⟩:=lr
      have aB:=zpG _ _ _ _ _ _ hm
      obtain ⟨a7,bm⟩:=zm2 _ _ _ _ _ _ hm (by simp)
      have HM:=Za hm
      have HSM:=Za a7
      have a6:r.length<=3000:=by omega
      simp only [Bool.false_eq_true,if_false,List.length_nil] at aB
      have ac:l.length+1=(segs (k:Int) p).length:=by have:=ay.out;omega
      obtain ⟨nl,hnl⟩:∃nl,l.length=nl:=⟨_,rfl⟩
      rw [hnl] at ac
      have am:=Za hnl
      clear a7 bm aB hnl
      go_upto_block 4 with (first
       | (go_at_call 128;((with_reducible refine (aL.out p _).mono ?_);rintro e w1 ⟨rfl,aC⟩))
       | (go_at_call 179;((with_reducible refine (aV.out _ (HG.out.ext (ar.out.trans (ad.out.trans zx)))).mono ?_);rintro e w2 ⟨aF,h2⟩;rw [hm] at h2;simp only at h2;obtain ⟨A,c,rfl,hi,a5⟩:=h2;rw [am.out] at hi ⊢)))
      have ai:=Za ((Bx.new wr (.int .u8 (k:Int)) (.bool p) (.int .i64 0) (.int .i64 0) 92).ext (aC.trans aF))
      have ax:=Za (show Ext wr w2 from (((Ze wr).alloc _).trans aC).trans aF)
      have HI:=Za hi
      have bc:=Za (show ∀b off,A=some ⟨b,off,none⟩->wr.heap.size<b from fun b off e=>by
       have h1:=a5 b off e
       have h2:=Zt aC
       simp only [ZP] at h2
       omega)
      clear aC aF hi a5
      go_cut [8] from 43 to 67 (fun n wx=>∃n0:Nat,n = .int .i64 (n0:Int)/\Hid (n0=if cb=true then l.headD 0 else 1)/\Hid (Bx wx wr.heap.size (.int .u8 (k:Int)) (.bool p) (.int .i64 (stW (k:Int) p l).a) (.int .i64 (stW (k:Int) p l).b))/\Hid (Ext wr wx))
      case first =>
       have h3:=ay.out
       cases cb
       ·rcases zrI (p:=p) aw.out (show l.length<=2 by have:=am.out;omega) with ⟨hl,ha,hb⟩ | ⟨a,hl,ha,hb⟩ | ⟨a,b,hl,ha,hb⟩
        ·have af:=Za (And.intro ha hb)
         obtain rfl:nl=0:=by rw [<-am.out,hl];rfl
         clear hl ha hb h3 ac
         go_wp2_with fail
         go_meet
         exact ⟨1,rfl,Za rfl,by rw [af.out.1,af.out.2];exact ai,ax⟩
        ·have af:=Za (And.intro ha hb)
         obtain rfl:nl=1:=by rw [<-am.out,hl];rfl
         have hi:=HI.out.2 (by omega)
         obtain ⟨b0,off,rfl,a4,aa⟩:=hi
         have c0:=aa 0 (by omega)
         rw [hl] at c0
         simp only [natI,List.map_cons,ZY,Nat.add_zero] at c0
         obtain ⟨⟨x0',x1,x2,x3⟩,f0,f1,f2,f3⟩:=ai.out
         have HBS:=Za (ai.out.set2 (.int .i64 (a:Int)))
         clear hl ha hb aa h3 ac
         go_wp2_with fail
         go_meet
         exact ⟨1,rfl,Za rfl,by rw [af.out.1,af.out.2];exact HBS,Za (ax.out.set (by simp) _)⟩
        ·have af:=Za (And.intro ha hb)
         obtain rfl:nl=2:=by rw [<-am.out,hl];rfl
         have hi:=HI.out.2 (by omega)
         obtain ⟨b0,off,rfl,a4,aa⟩:=hi
         have c0:=aa 0 (by omega)
         have c1:=aa 1 (by omega)
         rw [hl] at c0 c1
         simp only [natI,List.map_cons,ZY,List.getD_cons_succ,Nat.add_zero] at c0 c1
         obtain ⟨⟨x0',x1,x2,x3⟩,f0,f1,f2,f3⟩:=ai.out
         have HBS:=Za ((ai.out.set2 (.int .i64 (a:Int))).set3 (.int .i64 (b:Int)))
         clear hl ha hb aa h3 ac
         go_wp2_with fail
         have hne:=bc.out b0 off rfl
         have n0:∀(W:World) (i:Nat) (v:Value),(W.setCell ⟨wr.heap.size,i,none⟩ v).cell? ⟨b0,off,none⟩=W.cell? ⟨b0,off,none⟩:=fun W i v=>Zg _ _ _ _ (by first | (simp;done) | (simp;omega))
         have n1:∀(W:World) (i:Nat) (v:Value),(W.setCell ⟨wr.heap.size,i,none⟩ v).cell? ⟨b0,off+1,none⟩=W.cell? ⟨b0,off+1,none⟩:=fun W i v=>Zg _ _ _ _ (by first | (simp;done) | (simp;omega))
         go_region_held3 (fun wx=>wx.cell? ⟨b0,off,none⟩=some (.int .i64 (a:Int))/\wx.cell? ⟨b0,off+1,none⟩=some (.int .i64 (b:Int))) (go_keep) (fail)
         go_wp2_with fail
         go_meet
         exact ⟨1,rfl,Za rfl,by rw [af.out.1,af.out.2];exact Za (HBS.out.ext ((Ze _).drew)),Za ((ax.out.set (by simp) _).set (by simp) _).drew⟩
       ·obtain ⟨a,hl,ha,hb⟩:=zqo (p:=p) aw.out (show l.length=1 by have:=a8.out aw.out;have:=am.out;omega)
        have af:=Za (And.intro ha hb)
        obtain rfl:nl=1:=by rw [<-am.out,hl];rfl
        have ba:=Za (show l.headD 0=a by rw [hl];rfl)
        have hi:=HI.out.2 (by omega)
        obtain ⟨b0,off,rfl,a4,aa⟩:=hi
        have c0:=aa 0 (by omega)
        rw [hl] at c0
        simp only [natI,List.map_cons,ZY,Nat.add_zero] at c0
        clear hl ha hb aa h3 ac
        go_wp2_with fail
        go_meet
        exact ⟨a,rfl,Za (by rw [ba.out];rfl),by rw [af.out.1,af.out.2];exact ai,ax⟩
      case rest =>
       clear ai ax
       obtain ⟨n0,rfl,aW,aJ,aK⟩:=hcut
       have aS:=Za (fun W=>zl7 [32,116,105,109,101,115] r (by omega) W)
       obtain ⟨tm,aH⟩:∃tm,(cutS [32,116,105,109,101,115] r).getD r=tm:=⟨_,rfl⟩
       obtain ⟨fs,aA⟩:∃fs,(cutS [32,116,105,109,101,115] r).isSome=fs:=⟨_,rfl⟩
       rw [aH,aA] at aS
       have ak:=Za (show (fs && !cb)=false->endW (k:Int) l r=(n0,r) from fun h=>by
        unfold endW
        rw [aw.out,aW.out]
        cases cb
        ·have h2:fs=false:=by simpa using h
         rw [h2] at aA
         have h3:cutS timesB r=none:=by simpa [timesB] using aA
         rw [h3]
         rfl
        ·rfl)
       have al:=Za (show (fs && !cb)=true->endW (k:Int) l r=(valD (((cutP [32] tm).getD tm).take (headD 4 ((cutP [32] tm).getD tm))),((cutP [32] tm).getD tm).drop (headD 4 ((cutP [32] tm).getD tm))) from fun h=>by
        have h2:fs=true/\cb=false:=by simpa using h
        obtain ⟨rfl,rfl⟩:=h2
        obtain ⟨t,ht⟩:=Option.isSome_iff_exists.1 aA
        have bn:t=tm:=by rw [<-aH,ht];rfl
        subst bn
        unfold endW
        rw [aw.out,show cutS timesB r=some t from ht]
        rfl)
       have aM:=Za (show tm.length<=3000 from by
        rw [<-aH,cutS]
        split
        ·simp;omega
        ·exact a6)
       clear aH aA
       go_upto_region 18 with (first
        | (go_at_call 180;((with_reducible refine (aS.out _).mono ?_);rintro e w4 ⟨rfl,rfl⟩)))
       obtain ⟨fb,aQ⟩:∃fb,(fs && !cb)=fb:=⟨_,rfl⟩
       rw [aQ] at ak al
       go_cut [77] from 73 to 77 (fun c wx=>c = .bool fb/\w4=wx)
       case first =>
        subst aQ
        cases fs <;> cases cb <;> (go_wp2_with fail;go_meet;exact ⟨rfl,rfl⟩)
       case rest =>
        clear aQ
        obtain ⟨rfl,rfl⟩:=hcut
        go_upto_if 77 with fail
        go_cut [8,12] from 78 to 84 (fun nn rr wx=>∃(n1:Nat) (r1:List UInt8),nn = .int .i64 (n1:Int)/\rr = .string ⟨r1.toArray⟩/\Hid (endW (k:Int) l r=(n1,r1))/\r1.length<=3000/\Hid (Bx wx wr.heap.size (.int .u8 (k:Int)) (.bool p) (.int .i64 (stW (k:Int) p l).a) (.int .i64 (stW (k:Int) p l).b))/\Hid (Ext wr wx))
        case first =>
         cases fb
         ·have ah:=Za (ak.out rfl)
          go_wp2_with fail
          go_meet
          exact ⟨n0,r,rfl,rfl,ah,a6,aJ,aK⟩
         ·have ah:=Za (al.out rfl)
          have aX:=Za (fun W=>zlv [32] tm W)
          obtain ⟨u,hu⟩:∃u,(cutP [32] tm).getD tm=u:=⟨_,rfl⟩
          rw [hu] at ah aX
          have hul:u.length<=3000:=by
           rw [<-hu]
           cases hcp:cutP [32] tm with
           | none=>exact aM.out
           | some v=>have:=zb3 hcp;have:=aM.out;simp only [Option.getD_some];omega
          have be:=Za (fun W=>zdR u W)
          have bk:(u.drop (headD 4 u)).length<=3000:=by rw [ZA];omega
          clear hu
          go_wp2_with (first
           | (go_at_call 182;((with_reducible refine (aX.out _).mono ?_);rintro e w5 ⟨rfl,rfl⟩))
           | (go_at_call 181;((with_reducible refine (be.out _).mono ?_);rintro e w6 ⟨rfl,hq6⟩)))
          go_meet
          exact ⟨_,_,rfl,rfl,ah,bk,Za (aJ.out.ext zx),Za (aK.out.trans zx)⟩
        case rest =>
         obtain ⟨n1,r1,rfl,rfl,ah,hr1,HB9,ag⟩:=hcut
         clear aJ aK ak al aM aW
         obtain ⟨⟨y0,y1,y2,y3⟩,g0,g1,g2,g3⟩:=HB9.out
         have hw0:w.heap.size<wr.heap.size:=Zi bb.out (Zt ad.out)
         have aq:=Za (fun W=>zaG (k:Int) p (stW (k:Int) p l).a (stW (k:Int) p l).b (by omega) (by omega) W)
         have aG:(⟨(k:Int),p,(stW (k:Int) p l).a,(stW (k:Int) p l).b⟩:St)=stW (k:Int) p l:=St.ext_ zdN.1.symm zdN.2.symm rfl rfl
         by_cases hall:r1=[]/\1<=n1/\n1<=200/\okSt (stW (k:Int) p l)=true/\phW (stW (k:Int) p l) n1=s
         ·obtain ⟨rfl,e2,e3,e4,e5⟩:=hall
          have aN:=Za (znU HM.out ah.out e2 e3 e4 e5)
          have q2:(1:Int)<=(n1:Int):=by omega
          have q3:(n1:Int)<=200:=by omega
          have az:=Za (show okE (stW (k:Int) p l)=0 by rw [okE,if_pos e4])
          have au:=Za (fun W hg'=>zb0 (stW (k:Int) p l) n1 e4 e3 W hg')
          rw [e5,zdN.1,zdN.2] at au
          have ap:=Za aG
          have bj:=Za (show x0=some (stW (k:Int) p l,n1) by rw [<-HR.out];exact zny aj.out aN.out)
          have aU:=Za (zdN (k:=(k:Int)) (p:=p) (l:=l))
          clear aG e4 e5
          go_upto_region 21 with (first
           | (go_at_call 52;((with_reducible refine (aq.out _).mono ?_);rintro e w7 ⟨rfl,ae⟩;rw [ap.out,az.out];have ab:=Za (HB9.out.ext ae);obtain ⟨⟨z0,z1,z2,z3⟩, -⟩:=ab.out))
            | (go_at_call 86;((with_reducible refine (au.out _ (HG.out.ext (ar.out.trans (ad.out.trans (ag.out.trans zx))))).mono ?_);rintro e w8 ⟨rfl,aR⟩)))
          have aI:=Za (ab.out.ext aR)
          have aY:=Za (ad.out.trans (ag.out.trans (ae.trans aR)))
          have av:=Za (HB.out.ext aY.out)
          clear y0 y1 y2 y3 g0 g1 g2 g3 z0 z1 z2 z3
          obtain ⟨⟨z0,z1,z2,z3⟩, -⟩:=aI.out
          obtain ⟨⟨r0,r1,r2,r3⟩,f0,f1,f2,f3⟩:=av.out
          go_wp2
          refine zkI av.out fun WF hWF ⟨v0,v1,v2,v3⟩=>?_
          exact bodyPost_ret (v := .tuple #[.agg #[.int .u8 (k:Int),.bool p,.int .i64 (stW (k:Int) p l).a,.int .i64 (stW (k:Int) p l).b],.int .i64 (n1:Int),.bool true]) (by simp [results,Tryz.f144,go_sem,v0,v1,v2,v3]) rfl ⟨by rw [<-hWF];exact (((((ar.out.trans aY.out).set (by simp) _).set (by simp) _).set (by simp) _).set (by simp) _),by rw [bj.out];simp only [aU.out.1,aU.out.2]⟩
         ·have ao:=Za (zqs HM.out ah.out hall)
          have ap:=Za aG
          clear ah aG
          by_cases e1:r1=[]
          ·subst e1
           by_cases e2:1<=n1
           ·have q2:(1:Int)<=(n1:Int):=by omega
            by_cases e3:n1<=200
            ·have q3:(n1:Int)<=200:=by omega
             cases e4:okSt (stW (k:Int) p l)
             ·have az:=Za (show okE (stW (k:Int) p l)=8 by rw [okE,if_neg (by rw [e4];decide)])
              clear hall e4
              go_wp2_with (first
               | (go_at_call 52;((with_reducible refine (aq.out _).mono ?_);rintro e w7 ⟨rfl,ae⟩;rw [ap.out,az.out];have ab:=Za (HB9.out.ext ae);obtain ⟨⟨z0,z1,z2,z3⟩, -⟩:=ab.out)))
              go_roundw
              case rel=>exact ⟨d+1,by go_num,by omega,Za (ad.out.trans (ag.out.trans zx)),Za (by rw [<-zcD aj.out ao.out];exact HR.out)⟩
              case measure=>simp [intOf];omega
             ·have az:=Za (show okE (stW (k:Int) p l)=0 by rw [okE,if_pos e4])
              have au:=Za (fun W hg'=>zb0 (stW (k:Int) p l) n1 e4 e3 W hg')
              have e5:phW (stW (k:Int) p l) n1≠s:=fun e=>hall ⟨rfl,e2,e3,e4,e⟩
              rw [zdN.1,zdN.2] at au
              obtain ⟨PT,a3⟩:∃PT,phW (stW (k:Int) p l) n1=PT:=⟨_,rfl⟩
              rw [a3] at au e5
              have q5:(PT==s)=false:=by simpa using e5
              clear hall e4 a3 e5
              go_wp2_with (first
               | (go_at_call 52;((with_reducible refine (aq.out _).mono ?_);rintro e w7 ⟨rfl,ae⟩;rw [ap.out,az.out];have ab:=Za (HB9.out.ext ae);obtain ⟨⟨z0,z1,z2,z3⟩, -⟩:=ab.out))
               | (go_at_call 86;((with_reducible refine (au.out _ (HG.out.ext (ar.out.trans (ad.out.trans (ag.out.trans zx))))).mono ?_);rintro e w8 ⟨rfl,aR⟩)))
              go_roundw
              case rel=>exact ⟨d+1,by go_num,by omega,Za (ad.out.trans (ag.out.trans zx)),Za (by rw [<-zcD aj.out ao.out];exact HR.out)⟩
              case measure=>simp [intOf];omega
            ·have q3:¬(n1:Int)<=200:=by omega
             clear hall
             go_wp2_with (first
              | (go_at_call 52;((with_reducible refine (aq.out _).mono ?_);rintro e w7 ⟨rfl,ae⟩;rw [ap.out];have ab:=Za (HB9.out.ext ae);obtain ⟨⟨z0,z1,z2,z3⟩, -⟩:=ab.out)))
             go_roundw
             case rel=>exact ⟨d+1,by go_num,by omega,Za (ad.out.trans (ag.out.trans zx)),Za (by rw [<-zcD aj.out ao.out];exact HR.out)⟩
             case measure=>simp [intOf];omega
           ·have q2:¬(1:Int)<=(n1:Int):=by omega
            clear hall
            go_wp2_with (first
             | (go_at_call 52;((with_reducible refine (aq.out _).mono ?_);rintro e w7 ⟨rfl,ae⟩;rw [ap.out];have ab:=Za (HB9.out.ext ae);obtain ⟨⟨z0,z1,z2,z3⟩, -⟩:=ab.out)))
            go_roundw
            case rel=>exact ⟨d+1,by go_num,by omega,Za (ad.out.trans (ag.out.trans zx)),Za (by rw [<-zcD aj.out ao.out];exact HR.out)⟩
            case measure=>simp [intOf];omega
          ·have q1:r1.isEmpty=false:=by simpa using e1
           clear hall e1
           go_wp2_with (first
            | (go_at_call 52;((with_reducible refine (aq.out _).mono ?_);rintro e w7 ⟨rfl,ae⟩;rw [ap.out];have ab:=Za (HB9.out.ext ae);obtain ⟨⟨z0,z1,z2,z3⟩, -⟩:=ab.out)))
           go_roundw
           case rel=>exact ⟨d+1,by go_num,by omega,Za (ad.out.trans (ag.out.trans zx)),Za (by rw [<-zcD aj.out ao.out];exact HR.out)⟩
           case measure=>simp [intOf];omega
    ·obtain rfl:d=2:=by omega
     have bf:=Za (show triesW s (11-(k+1)) ((k+1:Nat):Int)=x0 by rw [show 11-(k+1)=10-k by omega,show ((k+1:Nat):Int)=(k:Int)+1 by omega];exact HR.out)
     go_wp2_with fail
     go_roundw
     case rel=>exact ⟨k+1,by go_num,by omega,by omega,ad,bf⟩
     case measure=>simp [intOf];omega
  ·obtain rfl:k=11:=by omega
   have HN:=Za (show x0=none by rw [<-HT.out];rfl)
   have av:=Za (HB.out.ext HE.out)
   obtain ⟨⟨r0,r1,r2,r3⟩,f0,f1,f2,f3⟩:=av.out
   go_wp2
   refine zkI av.out fun WF hWF ⟨v0,v1,v2,v3⟩=>?_
   exact bodyPost_ret (v := .tuple #[.agg #[.int .u8 0,.bool false,.int .i64 0,.int .i64 0],.int .i64 0,.bool false]) (by simp [results,Tryz.f144,go_sem,v0,v1,v2,v3]) rfl ⟨by rw [<-hWF];exact (((((ar.out.trans HE.out).set (by simp) _).set (by simp) _).set (by simp) _).set (by simp) _),by rw [HN.out]⟩
end Go.Proofs.YtbjgpbojjhldaaaGreatDoor
/- words: Cells and ParseCells. -/
namespace Go.Proofs.YtbjgpbojjhldaaaGreatDoor
set_option maxRecDepth 100000
open Go.RowKit Go.ChangeShapes Go.WideShapes Go.Joins
theorem zi4 (n c:Nat) (A:Option Addr) (l:List St) (w:World) (hl:Vec shSt w A n l) (hn:n<=maxLen) (hby:Bytes l) (hg:Glob w) :
  Calls Tryz.prog 25 #[.slice A n c] w fun e w'=>e = .returned (.tuple #[.string ⟨(wcV l).toArray⟩,.int .i64 (wcE l)])/\Ext w w':=by
 have HS:=Za (zcm n c A l w hl hn hby)
 by_cases h0:allE l=0
 ·obtain ⟨h1,h2, -, -⟩:=zaZ h0
  have h3:n<=200:=by rw [<-hl.1];exact h1
  have HA:=Za h0
  have ab:=Za (fun (w':World) (hb:Ext w w')=>zer n c A l w' (hl.ext hb) h3 h2 (hg.ext hb))
  have HV:=Za (show ∀b:Bool,decide (2000<(wordsL l).length)=b->wcV l=(if b then [] else wordsL l)/\wcE l=if b then 4 else 0 from fun b hb=>by
   have e1:wcE l=if b then 4 else 0:=by
    rw [wcE,if_neg (by simp [h0])]
    cases b
    ·rw [if_neg (by simpa using hb)];rfl
    ·rw [if_pos (by simpa using hb)];rfl
   refine ⟨?_,e1⟩
   rw [wcV,e1]
   cases b <;> rfl)
  clear hl hg hby h0 h1 h2
  obtain ⟨T,hT⟩:∃T,wordsL l=T:=⟨_,rfl⟩
  rw [hT] at ab HV
  clear hT
  by_cases hc:2000<T.length
  ·have aa:=Za (HV.out true (by simpa using hc))
   have q1:(2000:Int)<(T.length:Int):=by omega
   go_enter Tryz.func25,Tryz.ntmps25
   go_wp2_with (first
    | (go_at_call 49;((with_reducible refine HS.out.mono ?_);rintro e w1 ⟨rfl,ac⟩;rw [HA.out]))
    | (go_at_call 51;((with_reducible refine (ab.out _ zx).mono ?_);rintro e w2 ⟨rfl,ad⟩)))
   go_ret2
   exact ⟨by rw [aa.out.1,aa.out.2];rfl,zx⟩
  ·have aa:=Za (HV.out false (by simpa using hc))
   have q1:¬(2000:Int)<(T.length:Int):=by omega
   go_enter Tryz.func25,Tryz.ntmps25
   go_wp2_with (first
    | (go_at_call 49;((with_reducible refine HS.out.mono ?_);rintro e w1 ⟨rfl,ac⟩;rw [HA.out]))
    | (go_at_call 51;((with_reducible refine (ab.out _ zx).mono ?_);rintro e w2 ⟨rfl,ad⟩)))
   go_ret2
   exact ⟨by rw [aa.out.1,aa.out.2];rfl,zx⟩
 ·have HV:=Za (show wcV l=[]/\wcE l=allE l from by
   have e1:wcE l=allE l:=by rw [wcE,if_pos h0]
   exact ⟨by rw [wcV,e1,if_neg h0],e1⟩)
  obtain ⟨x,hx⟩:∃x,allE l=x:=⟨_,rfl⟩
  rw [hx] at h0 HV HS
  have hb:(x != 0)=true:=by simpa using h0
  clear hl hg hby h0 hx
  go_enter Tryz.func25,Tryz.ntmps25
  go_wp2_with (first
   | (go_at_call 49;((with_reducible refine HS.out.mono ?_);rintro e w1 ⟨rfl,ac⟩)))
  go_ret2
  exact ⟨by rw [HV.out.1,HV.out.2];rfl,zx⟩
def PcR (x:Option (List St)) (w:World) (e:Ending) (w':World):Prop:=Ext w w'/\match x with
 | none=>e = .returned (.tuple #[.slice none 0 0,.int .i64 12])
 | some l=>∃v,e = .returned (.tuple #[v,.int .i64 0])/\OwnV shSt w' w.heap.size 92 v l.length l
theorem zkD {w w':World} {x:Option (List St)} (h:x=none) (hb:Ext w w'):PcR x w (.returned (.tuple #[.slice none 0 0,.int .i64 12])) w':=by
 subst h
 exact ⟨hb,rfl⟩
theorem zoC {w w':World} {x:Option (List St)} {l:List St} {v:Value} (h:x=some l) (hb:Ext w w') (ho:OwnV shSt w' w.heap.size 92 v l.length l):PcR x w (.returned (.tuple #[v,.int .i64 0])) w':=by
 subst h
 exact ⟨hb,v,rfl,ho⟩
theorem zdC (acc:List St) (x:List UInt8) (ws:List (List UInt8)):pcGo acc (x::ws)=match readPh x with
  | none=>none
  | some (x,n)=>if 200<acc.length+n then none else pcGo (acc++List.replicate n x) ws:=rfl
theorem zlf:∀(m:Nat) (l:List UInt8),l.length<=m->(splC l).length<=l.length+1/\∀x∈splC l,x.length<=l.length:=by
 intro m
 induction m using Nat.strongRecOn with
 | ind m ih =>
  intro l hm
  rcases l with _ | ⟨x,_ | ⟨y,l⟩⟩
  ·simp [splC]
  ·simp [splC]
  ·simp only [Zk] at hm
   rw [splC]
   by_cases h:x=44/\y=32
   ·rw [if_pos h]
    obtain ⟨i1,i2⟩:=ih l.length (by omega) l (Zb _)
    refine ⟨by simp only [Zk];omega,fun z hz=>?_⟩
    rcases Zx.1 hz with rfl | hz
    ·simp
    ·have:=i2 z hz;simp only [Zk];omega
   ·rw [if_neg h]
    obtain ⟨i1,i2⟩:=ih (y::l).length (by simp only [Zk];omega) (y::l) (Zb _)
    split
    ·rename_i h' t e
     rw [e] at i1 i2
     refine ⟨by simp only [Zk] at i1 ⊢;omega,fun z hz=>?_⟩
     rcases Zx.1 hz with rfl | hz
     ·have:=i2 h' (by simp);simp only [Zk] at this ⊢;omega
     ·have:=i2 z (by simp [hz]);simp only [Zk] at this ⊢;omega
    ·exact ⟨by simp,fun z hz=>by simp at hz;subst hz;simp⟩
theorem znH (l:List UInt8):(splC l).length<=l.length+1/\∀x∈splC l,x.length<=l.length:=zlf l.length l (Zb _)
theorem Bx.but {w w':World} {g:Nat} {a b c d:Value} {E:Option Nat} (h:Bx w g a b c d) (hb:But E w w') (hne:some g≠E):Bx w' g a b c d:=by
 obtain ⟨⟨h0,h1,h2,h3⟩,f0,f1,f2,f3⟩:=h
 have hl:=Zn w _ h0
 have hf:∀o,w'.frozen? ⟨g,o,none⟩=w.frozen? ⟨g,o,none⟩:=fun o=>World.frozen?_of_block (hb.block g hl hne)
 exact ⟨⟨(hb.cell (p:=⟨g,0,none⟩) hl hne).trans h0,(hb.cell (p:=⟨g,1,none⟩) hl hne).trans h1,(hb.cell (p:=⟨g,2,none⟩) hl hne).trans h2,(hb.cell (p:=⟨g,3,none⟩) hl hne).trans h3⟩,
  (hf 0).trans f0,(hf 1).trans f1,(hf 2).trans f2,(hf 3).trans f3⟩
def pcFin (s:List UInt8):Option (List St)->Option (List St)
 | none=>none
 | some l=>if allE l=0/\wordsL l=s then some l else none
theorem zpU {s:List UInt8} (h0:¬2000<s.length) (h1:¬s=nothB):pcL s=pcFin s (pcGo [] (splC s)):=by
 rw [pcL,if_neg h0,if_neg h1]
 cases pcGo [] (splC s) <;> rfl
theorem zi7 (s:List UInt8) (hs:s.length<=1000000000) (w:World) (hg:Glob w) :
  Calls Tryz.prog 104 #[.string ⟨s.toArray⟩] w (PcR (pcL s) w):=by
 by_cases h0:2000<s.length
 ·have HX:=Za (show pcL s=none by rw [pcL,if_pos h0])
  have q1:(2000:Int)<(s.length:Int):=by omega
  go_enter Tryz.func104,Tryz.ntmps104
  go_wp2
  go_ret2
  exact zkD HX.out zx
 have q1:¬(2000:Int)<(s.length:Int):=by omega
 by_cases h1:s=nothB
 ·have HX:=Za (show pcL s=some [] by rw [pcL,if_neg h0,if_pos h1])
  subst h1
  go_enter Tryz.func104,Tryz.ntmps104
  go_wp2
  go_ret2
  exact zoC HX.out zx (OwnV.nil _ _ _ _)
 have hne:(s==[110,111,116,104,105,110,103])=false:=by simpa [nothB] using h1
 obtain ⟨x0,hx0⟩:∃x,pcL s=x:=⟨_,rfl⟩
 obtain ⟨g0,au⟩:∃g,pcGo [] (splC s)=g:=⟨_,rfl⟩
 have HXG:=Za (show x0=pcFin s g0 by rw [<-hx0,zpU h0 h1,au])
 rw [hx0]
 have aC:=Za (ziY s (by omega) w hg)
 have aD:=Za (znH s)
 have aI:=Za au
 have HG:=Za hg
 have hs2:s.length<=2000:=by omega
 clear hx0 au hg h0 h1
 go_enter Tryz.func104,Tryz.ntmps104
 go_wp2_with (go_at_call 66;((with_reducible refine aC.out.mono ?_);rintro e w1 ⟨g,m,rfl,aP,av⟩))
 have hm:=av.1
 have HV:=Za av
 have ay:=Za aP
 have hm2:m<=2001:=by rw [<-hm];have:=aD.out.1;omega
 clear av aC hm
 go_loopw [4,18] (fun u i wr=>∃(V:Value) (k:Nat) (acc:List St),V=u/\i = .int .i64 k/\k<=m/\acc.length<=200/\Hid (OwnV shSt wr w1.heap.size 92 V acc.length acc)/\Hid (Ext w1 wr)/\Hid (pcGo acc ((splC s).drop k)=g0)/\Hid (∀x∈acc,okSt x=true)) (fun _ i _=>m-(intOf i).toNat)
 case atStart=>exact ⟨_,0,[],rfl,rfl,ZK _,by simp,Za (OwnV.nil _ _ _ _),Za (Ze _),aI,Za (by simp)⟩
 case round =>
  obtain ⟨V,k,acc,rfl,rfl,hk,ar,HO,HE,ah,al⟩:=hrel
  have aa:=Za (ay.out.trans HE.out)
  by_cases hlt:k<m
  ·have ab:=zcr (HV.out.ext HE.out) hlt
   have aN:=HV.out.1
   obtain ⟨p,hp⟩:∃p,(splC s).getD k []=p:=⟨_,rfl⟩
   rw [hp] at ab
   have HD:=Za (show (splC s).drop k=p::(splC s).drop (k+1) by
    rw [ZL (by omega),<-hp,Zd,Zf (by omega)]
    rfl)
   have aO:p.length<=3000:=by
    have h9:=aD.out.2 p (by rw [<-hp,Zd,Zf (by omega)];exact List.getElem_mem _)
    omega
   have am:=Za (fun W hg'=>zlL p aO W hg')
   have q2:(k:Int)<(m:Int):=by omega
   have q0:(0:Int)<=(k:Int):=by omega
   obtain ⟨A,c,rfl,hv, -⟩:=zan HO.out
   clear hp aN hv
   cases hr:readPh p with
   | none =>
    have ao:=Za (show x0=none by
     have h9:=ah.out
     rw [HD.out,zdC,hr] at h9
     rw [HXG.out,<-h9];rfl)
    go_wp2_with (go_at_call 144;((with_reducible refine (am.out _ (HG.out.ext (aa.out.trans zx))).mono ?_);rintro e w3 ⟨aE,h3⟩;rw [hr] at h3;simp only at h3;subst h3))
    go_ret2
    exact zkD ao.out (aa.out.trans zx)
   | some xn =>
    obtain ⟨x,n⟩:=xn
    obtain ⟨aR,hx2,hx3, -⟩:=znn.1 hr
    have aM:=Za aR
    by_cases hov:200<acc.length+n
    ·have ao:=Za (show x0=none by
      have h9:=ah.out
      rw [HD.out,zdC,hr] at h9
      simp only at h9
      rw [if_pos hov] at h9
      rw [HXG.out,<-h9];rfl)
     have i1:=Zj ((acc.length:Int)+(n:Int)) (by omega)
     have q3:(200:Int)<(acc.length:Int)+(n:Int):=by omega
     go_wp2_with (go_at_call 144;((with_reducible refine (am.out _ (HG.out.ext (aa.out.trans zx))).mono ?_);rintro e w3 ⟨aE,h3⟩;rw [hr] at h3;simp only at h3;subst h3))
     go_ret2
     exact zkD ao.out (aa.out.trans zx)
    ·have ak:=Za (show pcGo (acc++List.replicate n x) ((splC s).drop (k+1))=g0 by
      have h9:=ah.out
      rw [HD.out,zdC,hr] at h9
      simp only at h9
      rwa [if_neg hov] at h9)
     have i1:=Zj ((acc.length:Int)+(n:Int)) (by omega)
     have q3:¬(200:Int)<(acc.length:Int)+(n:Int):=by omega
     obtain ⟨xk,xp,xa,xb⟩:=x
     go_wp2_with (go_at_call 144;((with_reducible refine (am.out _ (HG.out.ext (aa.out.trans zx))).mono ?_);rintro e w3 ⟨aE,h3⟩;rw [hr] at h3;simp only at h3;subst h3))
     have qd:decide ((200:Int)<(acc.length:Int)+(n:Int))=false:=by simp;omega
     simp only [qd]
     have ax:=Za (Bx.new w3 (.int .u8 xk) (.bool xp) (.int .i64 xa) (.int .i64 xb) 92)
     have ap:Ext w1 (w3.alloc (.cells #[.int .u8 xk,.bool xp,.int .i64 xa,.int .i64 xb] 92)):=HE.out.trans ((zx:Ext wr w3).alloc _)
     obtain ⟨W4,aq⟩:∃W,w3.alloc (.cells #[.int .u8 xk,.bool xp,.int .i64 xa,.int .i64 xb] 92)=W:=⟨_,rfl⟩
     have aL:=Za (OwnV.ext HO.out (show Ext wr W4 by rw [<-aq];exact (zx:Ext wr w3).alloc _))
     rw [aq] at ax ap ⊢
     have aH:=Za ap
     have aK:=Za (show (Value.slice A acc.length c).ownBlock≠some w3.heap.size from fun e=>by
      have h9:=(OwnV.blk HO.out _ e).2
      have h8:=Zt (show Ext wr w3 from zx)
      omega)
     clear aq ap qd ab i1
     go_loopw [4,38] (fun u jj wi=>∃(j:Nat) (V:Value),V=u/\jj = .int .i64 j/\j<=n/\Hid (OwnV shSt wi w1.heap.size 92 V (acc.length+j) (acc++List.replicate j ⟨xk,xp,xa,xb⟩))/\Hid (Ext w1 wi)/\Hid (Bx wi w3.heap.size (.int .u8 xk) (.bool xp) (.int .i64 xa) (.int .i64 xb))/\Hid (V.ownBlock≠some w3.heap.size)) (fun _ jj _=>n-(intOf jj).toNat)
     case atStart=>exact ⟨0,_,rfl,rfl,by omega,Za (by simpa using aL.out),aH,ax,aK⟩
     case round =>
      obtain ⟨j,V,rfl,rfl,hj,aB,az,aw,aA⟩:=hrel
      by_cases hjn:j<n
      ·have q5:(j:Int)<(n:Int):=by omega
       obtain ⟨⟨y0,y1,y2,y3⟩, -⟩:=aw.out
       go_wp2_with (first
        | (at_builtin;(refine zaa (S:=shSt) (w:=w1) (m:=1) (xs:=[⟨xk,xp,xa,xb⟩]) 43 92 (.agg #[.int .u8 0,.bool false,.int .i64 0,.int .i64 0]) 24 (by rfl) (by rfl) Tryz.underlying43 zdt (by rfl) (by omega) (by rfl) (by rfl) (OwnV.ext aB.out zx) (az.out.trans zx) (Vec.lit2 (by simp) rfl rfl) (by omega) ?_;intro v' w6 ag ae af)))
       have aG:=Za ((aw.out.alloc (.cells #[.int .u8 xk,.bool xp,.int .i64 xa,.int .i64 xb] 92)).but af.out.1 aA.out.symm)
       have aJ:=Za (show v'.ownBlock≠some w3.heap.size from fun e=>by
        rcases af.out.2 with h | h
        ·exact aA.out (h.symm.trans e)
        ·have h9:=Zn _ _ y0
         rw [h] at e
         simp at e
         simp only at h9
         omega)
       go_roundw
       case rel=>exact ⟨j+1,v',rfl,by go_num,by omega,Za (by rw [List.replicate_succ',<-Zr];exact ag),ae,aG,aJ⟩
       case measure=>simp [intOf];omega
      ·obtain rfl:j=n:=by omega
       go_wp2_with fail
       go_roundw
       case rel=>exact ⟨V,k+1,acc++List.replicate j ⟨xk,xp,xa,xb⟩,rfl,by go_num,by omega,by simp;omega,Za (by simpa using aB.out),az,ak,Za (fun y hy=>by
        rcases ZQ.1 hy with h | h
        ·exact al.out y h
        ·rw [List.eq_of_mem_replicate h];exact aM.out)⟩
       case measure=>simp [intOf];omega
  ·obtain rfl:k=m:=by omega
   have aj:=Za (show g0=some acc by
    have h9:=ah.out
    rw [ZE (by have:=HV.out.1;omega)] at h9
    rw [<-h9]
    rfl)
   obtain ⟨A,c,rfl,hv, -⟩:=zan HO.out
   have HB9:=Za (zhh (l:=acc) (fun x hx=>by have:=zaq (zaK (al.out x hx));omega))
   have ac:=Za (fun (W:World) (h:Ext wr W)=>zcm acc.length c A acc W (hv.ext h) (by unfold maxLen;omega) HB9.out)
   have ai:=Za (fun (W:World) (h:Ext wr W) (hg':Glob W)=>zer acc.length c A acc W (hv.ext h) ar (Zu.2 al.out) hg')
   clear hv
   by_cases ha:allE acc=0
   ·by_cases ht:wordsL acc=s
    ·have ad:=Za (show x0=some acc by rw [HXG.out,aj.out,pcFin,if_pos ⟨ha,ht⟩])
     rw [ha] at ac
     rw [ht] at ai
     go_wp2_with (first
      | (go_at_call 49;((with_reducible refine (ac.out _ zx).mono ?_);rintro e w7 ⟨rfl,aF⟩))
      | (go_at_call 51;((with_reducible refine (ai.out _ zx (HG.out.ext (aa.out.trans zx))).mono ?_);rintro e w8 ⟨rfl,aQ⟩)))
     go_ret2
     exact zoC ad.out (aa.out.trans zx) (OwnV.down (OwnV.ext HO.out zx) (Zt ay.out))
    ·have ad:=Za (show x0=none by rw [HXG.out,aj.out,pcFin,if_neg (fun e=>ht e.2)])
     rw [ha] at ac
     obtain ⟨T,hT⟩:∃T,wordsL acc=T:=⟨_,rfl⟩
     rw [hT] at ai ht
     have q5:(T==s)=false:=by simpa using ht
     clear ht hT
     go_wp2_with (first
      | (go_at_call 49;((with_reducible refine (ac.out _ zx).mono ?_);rintro e w7 ⟨rfl,aF⟩))
      | (go_at_call 51;((with_reducible refine (ai.out _ zx (HG.out.ext (aa.out.trans zx))).mono ?_);rintro e w8 ⟨rfl,aQ⟩)))
     go_ret2
     exact zkD ad.out (aa.out.trans zx)
   ·have ad:=Za (show x0=none by rw [HXG.out,aj.out,pcFin,if_neg (fun e=>ha e.1)])
    obtain ⟨z,hz⟩:∃z,allE acc=z:=⟨_,rfl⟩
    rw [hz] at ac ha
    have q5:(z != 0)=true:=by simpa using ha
    clear ha hz
    go_wp2_with (first
     | (go_at_call 49;((with_reducible refine (ac.out _ zx).mono ?_);rintro e w7 ⟨rfl,aF⟩)))
    go_ret2
    exact zkD ad.out (aa.out.trans zx)
end Go.Proofs.YtbjgpbojjhldaaaGreatDoor
/- The reader of terms in plain Lean: what is left is the end of what was there. -/
namespace Go.Proofs.YtbjgpbojjhldaaaGreatDoor
set_option maxRecDepth 100000
theorem zep:∀s:List UInt8,(untilS s).2 <:+ s:=by
 intro s
 induction s with
 | nil=>exact List.suffix_refl _
 | cons x l ih =>
  rw [untilS]
  split
  ·exact List.suffix_refl _
  ·exact ih.trans (List.suffix_cons x l)
theorem zgQ {at_:List UInt8->Option Int} {c:St} {g:Tms} {s:List UInt8} {x:(Int×St×Tms)×List UInt8} (h:rdN at_ c g s=some x):x.2 <:+ s:=by
 unfold rdN at h
 split at h
 ·rename_i s'
  split at h
  ·cases h
  ·cases h
   exact (zep s').trans (List.suffix_cons _ _)
 ·cases h
  exact List.suffix_refl _
theorem zkK (at_:List UInt8->Option Int):∀f,(∀d s x,rdT at_ f d s=some x->x.2 <:+ s)/\(∀d s x,rdL at_ f d s=some x->x.2 <:+ s/\x.1.cnt+x.2.length<=s.length+1):=by
 intro f
 induction f with
 | zero=>exact ⟨fun d s x h=>(by rw [rdT] at h;cases h),fun d s x h=>(by rw [rdL] at h;cases h)⟩
 | succ f ih =>
  refine ⟨fun d s x h=>?_,fun d s x h=>?_⟩
  ·unfold rdT at h
   split at h
   ·rename_i s1
    split at h
    ·cases h
    ·split at h
     ·rename_i g s2 h2
      have h3:=(ih.2 _ _ _ h2).1
      have h4:=zgQ h
      exact ((h4.trans (List.suffix_cons _ _)).trans h3).trans (List.suffix_cons _ _)
     ·cases h
   ·split at h
    ·exact (zgQ h).trans (zep _)
    ·cases h
  ·rw [rdL] at h
   split at h
   ·cases h
   ·rename_i n c g s2 h2
    have h3:=ih.1 _ _ _ h2
    obtain ⟨y,hy,e⟩:=ZS.1 h
    subst e
    obtain ⟨h4,h5⟩:=ih.2 _ _ _ hy
    have h6:=h3.length_le
    simp only [Zk] at h6
    refine ⟨(h4.trans (List.suffix_cons _ _)).trans h3,?_⟩
    simp only [Tms.cnt]
    omega
   ·rename_i n c g s1 hne h2
    cases h
    have h3:=ih.1 _ _ _ h2
    have h6:=h3.length_le
    refine ⟨h3,?_⟩
    simp only [Tms.cnt]
    simp only at h6
    omega
end Go.Proofs.YtbjgpbojjhldaaaGreatDoor
/- The reader of terms in plain Lean: its steps by what is taken. -/
namespace Go.Proofs.YtbjgpbojjhldaaaGreatDoor
set_option maxRecDepth 100000
theorem zkG (at_:List UInt8->Option Int) (c:St) (g:Tms) (s:List UInt8):rdN at_ c g s=if hitB 42 s=true then (at_ (untilS (hitR 42 s)).1).map (fun n=>((n,c,g),(untilS (hitR 42 s)).2)) else some ((1,c,g),s):=by
 cases s with
 | nil=>rfl
 | cons y r =>
  by_cases h:y=42
  ·subst h
   rw [rdN]
   simp only [hitB,hitR,beq_self_eq_true,if_true]
   cases at_ (untilS r).1 <;> rfl
  ·have h1:hitB 42 (y::r)=false:=by simp [hitB,h]
   rw [h1,if_neg (by simp),rdN]
   intro s e
   cases e
   exact h rfl
theorem zkH (at_:List UInt8->Option Int) (f d:Nat) (s1:List UInt8):rdT at_ (f+1) d (40::s1)=if 8<d+1 then none else (rdL at_ f (d+1) s1).bind fun x=>if hitB 41 x.2=true then rdN at_ st0 x.1 (hitR 41 x.2) else none:=by
 rw [rdT]
 split
 ·rfl
 ·cases h:rdL at_ f (d+1) s1 with
  | none=>rfl
  | some x =>
   obtain ⟨g,r⟩:=x
   rw [ZV]
   cases r with
   | nil=>rfl
   | cons y r =>
    by_cases h:y=41
    ·subst h;simp [hitB,hitR]
    ·have h1:hitB 41 (y::r)=false:=by simp [hitB,h]
     simp only [h1]
     split
     ·rename_i e
      cases e
      exact absurd rfl h
     ·rfl
theorem znk (at_:List UInt8->Option Int) (f d:Nat) {s:List UInt8} (h:hitB 40 s=false):rdT at_ (f+1) d s=match parseL (untilS s).1 with
  | some [c]=>rdN at_ c .nil (untilS s).2
  | _=>none:=by
 rw [rdT]
 ·rfl
 ·intro s1 e
  rw [e] at h
  simp [hitB] at h
theorem zhJ (at_:List UInt8->Option Int) (f d:Nat) (s:List UInt8):rdL at_ (f+1) d s=(rdT at_ f d s).bind fun x=>if hitB 32 x.2=true then (rdL at_ f d (hitR 32 x.2)).map (fun y=>(Tms.cons x.1.1 x.1.2.1 x.1.2.2 y.1,y.2)) else some (Tms.cons x.1.1 x.1.2.1 x.1.2.2 .nil,x.2):=by
 rw [rdL]
 cases h:rdT at_ f d s with
 | none=>rfl
 | some x =>
  obtain ⟨⟨n,c,g⟩,r⟩:=x
  rw [ZV]
  cases r with
  | nil=>rfl
  | cons y r =>
   by_cases h:y=32
   ·subst h;simp [hitB,hitR]
   ·have h1:hitB 32 (y::r)=false:=by simp [hitB,h]
    simp only [h1]
    split
    ·rename_i e;cases e
    ·rename_i e;cases e;exact absurd rfl h
    ·rename_i e;cases e;rfl
end Go.Proofs.YtbjgpbojjhldaaaGreatDoor
