/- The reference's header of a line. -/
import Derived.Test.YtkneghkbgingdaaGreatDoorT32
import Derived.Test.YtkneghkbgingdaaGreatDoorT19
set_option maxHeartbeats 16000000
namespace Go.Proofs.YtkneghkbgingdaaGreatDoor
set_option maxRecDepth 100000
open Go.RowKit Go.ChangeShapes Go.WideShapes Go.Joins
def HdR (s word:List UInt8) (nm:Bool) (n:Nat) (w:World) (e:Ending) (w':World):Prop:=∃(S:List UInt8) (A:Option Addr) (q c:Nat) (ok:Bool),e = .returned (.tuple #[.string ⟨S.toArray⟩,.slice A q c,.bool ok])/\Ext w w' /\
 ((hdrR s word nm n=none/\ok=false)∨∃L,hdrR s word nm n=some (S,L)/\ok=true/\L.length=n/\Ints w' A q L)
theorem HdR.no {s word S:List UInt8} {nm:Bool} {n:Nat} {A:Option Addr} {q c:Nat} {w w':World} (h:hdrR s word nm n=none) (hb:Ext w w'):HdR s word nm n w (.returned (.tuple #[.string ⟨S.toArray⟩,.slice A q c,.bool false])) w':=⟨_,_,_,_,_,rfl,hb,.inl ⟨h,rfl⟩⟩
theorem HdR.yes {s word S:List UInt8} {nm:Bool} {n:Nat} {L:List Int} {A:Option Addr} {q c:Nat} {w w':World} (h:hdrR s word nm n=some (S,L)) (hl:L.length=n) (hb:Ext w w') (hi:Ints w' A q L):HdR s word nm n w (.returned (.tuple #[.string ⟨S.toArray⟩,.slice A q c,.bool true])) w':=⟨_,_,_,_,_,rfl,hb,.inr ⟨L,h,rfl,hl,hi⟩⟩
theorem zfD:∀(a b:List (List UInt8)),numsR (a++b)=(numsR a).bind fun x=>(numsR b).map fun y=>x++y:=by
 intro a
 induction a with
 | nil=>intro b;simp [numsR]
 | cons w r ih =>
  intro b
  rw [ZU,numsR,numsR,ih]
  cases num7 w <;> simp
  cases numsR r <;> simp
  cases numsR b <;> simp
theorem zcD {ls:List (List UInt8)} {a k:Nat} (ha:a<=k) (hk:k<ls.length) {L:List Int} (h:numsR ((ls.drop a).take (k-a))=some L):numsR ((ls.drop a).take (k+1-a))=(num7 (ls.getD k [])).map fun n=>L++[(n:Int)]:=by
 have e:(ls.drop a).take (k+1-a)=(ls.drop a).take (k-a)++[ls.getD k []]:=by
  rw [show k+1-a=k-a+1 by omega,List.take_add_one,ZV,show a+(k-a)=k by omega,Zd hk,Zc,Zd hk]
  rfl
 rw [e,zfD,h]
 simp only [Zz,numsR]
 cases num7 (ls.getD k []) <;> rfl
theorem zfE {ls:List (List UInt8)} {a k:Nat} (ha:a<=k) (hk:k<ls.length) {L:List Int} (h:numsR ((ls.drop a).take (k-a))=some L) (hn:num7 (ls.getD k [])=none):numsR (ls.drop a)=none:=by
 have h1:=zcD ha hk h
 rw [hn] at h1
 rw [<-Z4 (k+1-a) (ls.drop a),zfD,h1]
 rfl
theorem zaT (s word:List UInt8) (nm:Bool) (n a:Nat) (ha:(if nm=true then 2 else 1)=a) (hn:n<=10) (hs:s.length<=100000) (w:World):Calls Tryz.prog 53 #[.string ⟨s.toArray⟩,.string ⟨word.toArray⟩,.bool nm,.int .i64 (n:Int)] w (HdR s word nm n w):=by
 have ah:hdrR s word nm n=if (spl 32 s).getD 0 []≠word∨(spl 32 s).length≠a+n then none else (numsR ((spl 32 s).drop a)).map fun l=>((spl 32 s).getD (a-1) [],l):=by rw [hdrR,ha]
 have ay:∀(w':World),Calls Tryz.prog 31 #[.string ⟨s.toArray⟩,.int .u8 32] w' fun e w''=>∃(A:Option Addr) (c:Nat),e = .returned (.slice A (spl 32 s).length c)/\Ext w' w''/\Vec shStr w'' A (spl 32 s).length (spl 32 s):=fun w'=>by
  refine (zbL 32 s (by omega) w').mono ?_
  rintro e w9 ⟨v,rfl,ho,hb⟩
  obtain ⟨A,c,rfl,hv⟩:=zav ho
  exact ⟨A,c,rfl,hb,hv⟩
 have aE:=Za (fun k=>zal 32 s k)
 have af:=zbb 32 s
 have aI:=zbT 32 s
 generalize spl 32 s=L at *
 obtain ⟨m,hm⟩:∃m,L.length=m:=⟨_,rfl⟩
 have HM:=Za hm
 rw [hm] at ay af aI ah
 have aq:=Za ay
 have aD:=Za hs
 clear ay hs hm
 have hn64:=Zh (2+(n:Int)) ⟨by omega,by omega⟩
 have hn65:=Zh (1+(n:Int)) ⟨by omega,by omega⟩
 obtain ⟨W0,hW0⟩:∃W,L.getD 0 []=W:=⟨_,rfl⟩
 rw [hW0] at ah
 have au:=Za hW0
 clear hW0
 have hp1:(0:Int)<(m:Int):=by omega
 have an:(W0==word)=false∨((W0==word)=true/\¬(m=a+n))∨((W0==word)=true/\m=a+n):=by
  cases hq:(W0==word) with
  | false=>exact .inl rfl
  | true =>
   by_cases h:m=a+n
   ·exact .inr (.inr ⟨rfl,h⟩)
   ·exact .inr (.inl ⟨rfl,h⟩)
 rcases an with h1 | ⟨h1,h2⟩ | ⟨h1,h2⟩
 ·have HN:=Za (show hdrR s word nm n=none by rw [ah,if_pos (.inl (by simpa using h1))])
  clear ah
  cases nm
  all_goals
   simp only [Bool.false_eq_true,if_false,if_true] at ha
   subst ha
   go_enter Tryz.func53,Tryz.ntmps53
   go_wp2_with (first
    | (go_at_call 31;((with_reducible refine (aq.out _).mono ?_);rintro e w1 ⟨A1,c1,rfl,hq1,hv1⟩;obtain ⟨b1,o1,rfl,az,ab⟩:=hv1.word af;rw [au.out] at ab;rw [Nat.add_zero] at ab)))
   exact bodyPost_ret (v := .tuple #[.string ⟨#[]⟩,.slice none 0 0,.bool false]) (by simp [results,Tryz.f53,go_sem]) rfl (HdR.no (S:=[]) HN.out zx)
 ·have HN:=Za (show hdrR s word nm n=none by rw [ah,if_pos (.inr h2)])
  clear ah
  cases nm
  all_goals
   simp only [Bool.false_eq_true,if_false,if_true] at ha
   subst ha
   first
    | have h3:((m:Int)==1+(n:Int))=false:=by rw [Ze];omega
    | have h3:((m:Int)==2+(n:Int))=false:=by rw [Ze];omega
   go_enter Tryz.func53,Tryz.ntmps53
   go_wp2_with (first
    | (go_at_call 31;((with_reducible refine (aq.out _).mono ?_);rintro e w1 ⟨A1,c1,rfl,hq1,hv1⟩;obtain ⟨b1,o1,rfl,az,ab⟩:=hv1.word af;rw [au.out] at ab;rw [Nat.add_zero] at ab)))
   exact bodyPost_ret (v := .tuple #[.string ⟨#[]⟩,.slice none 0 0,.bool false]) (by simp [results,Tryz.f53,go_sem]) rfl (HdR.no (S:=[]) HN.out zx)
 ·subst h2
  have ar:=Za (show hdrR s word nm n=(numsR (L.drop a)).map fun l=>(L.getD (a-1) [],l) by rw [ah,if_neg (by rintro (h9 | h9);exact h9 (by simpa using h1);exact h9 rfl)])
  clear ah
  cases nm
  ·simp only [Bool.false_eq_true,if_false] at ha
   subst ha
   go_enter Tryz.func53,Tryz.ntmps53
   go_wp2_with (first
    | (go_at_call 31;((with_reducible refine (aq.out _).mono ?_);rintro e w1 ⟨A1,c1,rfl,hq1,hv1⟩;obtain ⟨b1,o1,rfl,az,ab⟩:=hv1.word af;rw [au.out] at ab;rw [Nat.add_zero] at ab;have HV1:=Za hv1;have av:=Za (zx:Ext w w1);clear hv1)))
   have aF:=Za (fun (k:Nat) (h:k<1+n)=>h)
   go_loopw [13,14] (fun u v wr=>∃(V:Value) (k:Nat) (Ls:List Int),V=u/\v = .int .i64 (k:Int)/\1<=k/\k<=1+n/\Ls.length=k-1/\Hid (OwnI wr w1.heap.size 3 V (k-1) Ls)/\Hid (numsR ((L.drop 1).take (k-1))=some Ls)/\Hid (Ext w1 wr)) (fun _ v _=>1+n-(intOf v).toNat)
   case atStart=>exact ⟨_,1,[],rfl,rfl,Zg _,by omega,by simp,Za (by simpa using OwnI.nil _ _ _),Za (by simp [numsR]),Za (Zf _)⟩
   case round =>
    obtain ⟨V,k,Ls,rfl,rfl,ao,aH,aG,HO,ai,HE⟩:=hrel
    obtain ⟨wa,rfl⟩:∃wa:World,wa=wr:=⟨_,rfl⟩
    obtain ⟨A9,c9,rfl, -⟩:=zc8 HO.out
    have q0:(0:Int)<=(k:Int):=by omega
    have al:=Za (av.out.trans HE.out)
    by_cases hlt:k<1+n
    ·obtain ⟨b',o',e9,aA,ak⟩:=(HV1.out.ext HE.out).word hlt
     cases e9
     have q1:(k:Int)<1+(n:Int):=by omega
     have aj:k<L.length:=by rw [HM.out];exact hlt
     have ad:=zcD ao aj ai.out
     have ag:=zfE ao aj ai.out
     have aC:=aE.out k
     have aJ:=aD.out
     obtain ⟨x,hx⟩:∃x,L.getD k []=x:=⟨_,rfl⟩
     rw [hx] at ak ad ag aC
     have aa:=Za (fun (w':World)=>zfT x (by omega) w')
     unfold Num7R num7I at aa
     clear hx aj
     cases hq:num7 x with
     | none =>
      rw [hq] at aa
      have HN:=Za (show hdrR s word _ n=none by rw [ar.out,ag hq];rfl)
      clear ad ag hq
      go_wp2_with (first
       | (go_at_call 32;((with_reducible refine (aa.out _).mono ?_);rintro e w2 ⟨rfl,hq2⟩)))
      exact bodyPost_ret (v := .tuple #[.string ⟨#[]⟩,.slice none 0 0,.bool false]) (by simp [results,Tryz.f53,go_sem]) rfl (HdR.no (S:=[]) HN.out (by have h9:=al.out;repeat (first|exact zr _|assumption|refine za ?_ _|refine zd ?_|refine zn ?_ _|refine zt ?_ (by assumption))))
     | some q =>
      rw [hq] at aa ad
      have ax:=Za ad
      clear ad ag hq
      go_wp2_with (first
       | (go_at_call 32;((with_reducible refine (aa.out _).mono ?_);rintro e w2 ⟨rfl,hq2⟩;have am:=Za (zx:Ext wa w2)))
       | (at_builtin;(refine zbv (w:=w1) 106 3 w2.heap.size (q:Int) (by rfl) (by rfl) Tryz.underlying106 zhN (by rfl) (by rfl) (OwnI.alloc (OwnI.ext HO.out am.out) _) ((HE.out.trans am.out).alloc _) (by simp [go_sem]) (by omega) ?_;intro v' w3 ae ac)))
      go_roundw
      case rel=>exact ⟨v',k+1,Ls++[(q:Int)],rfl,by go_num,by omega,by omega,by simp;omega,Za (by rw [show k+1-1=k-1+1 by omega];exact ae),Za (by rw [ax.out];rfl),ac⟩
      case measure=>simp [intOf];omega
    ·obtain rfl:k=1+n:=by omega
     obtain ⟨b',o',e9,aA,ak⟩:=(HV1.out.ext HE.out).word (k:=0) (by omega)
     cases e9
     rw [Nat.add_zero] at ak
     have ap:=ai.out
     rw [show 1+n-1=n by omega,ZE (by rw [Zu,HM.out];omega)] at ap
     have HY:=Za (show hdrR s word _ n=some (L.getD (1-1) [],Ls) by rw [ar.out,ap];rfl)
     obtain ⟨A8,c8,e8,aB⟩:=zc8 HO.out
     cases e8
     have aw:=Za aB
     generalize L.getD 0 []=Z at *
     have q1:¬(((1+n:Nat):Int)<1+(n:Int)):=by omega
     go_wp2_with fail
     exact bodyPost_ret (v := .tuple #[.string ⟨Z.toArray⟩,.slice A9 (1+n-1) c9,.bool true]) (by simp [results,Tryz.f53,go_sem]) rfl (HdR.yes HY.out (by omega) al.out aw.out)
  ·simp only [if_true] at ha
   subst ha
   go_enter Tryz.func53,Tryz.ntmps53
   go_wp2_with (first
    | (go_at_call 31;((with_reducible refine (aq.out _).mono ?_);rintro e w1 ⟨A1,c1,rfl,hq1,hv1⟩;obtain ⟨b1,o1,rfl,az,ab⟩:=hv1.word af;rw [au.out] at ab;rw [Nat.add_zero] at ab;have HV1:=Za hv1;have av:=Za (zx:Ext w w1);clear hv1)))
   have aF:=Za (fun (k:Nat) (h:k<1+n)=>h)
   go_loopw [13,14] (fun u v wr=>∃(V:Value) (k:Nat) (Ls:List Int),V=u/\v = .int .i64 (k:Int)/\2<=k/\k<=2+n/\Ls.length=k-2/\Hid (OwnI wr w1.heap.size 3 V (k-2) Ls)/\Hid (numsR ((L.drop 2).take (k-2))=some Ls)/\Hid (Ext w1 wr)) (fun _ v _=>2+n-(intOf v).toNat)
   case atStart=>exact ⟨_,2,[],rfl,rfl,Zg _,by omega,by simp,Za (by simpa using OwnI.nil _ _ _),Za (by simp [numsR]),Za (Zf _)⟩
   case round =>
    obtain ⟨V,k,Ls,rfl,rfl,ao,aH,aG,HO,ai,HE⟩:=hrel
    obtain ⟨wa,rfl⟩:∃wa:World,wa=wr:=⟨_,rfl⟩
    obtain ⟨A9,c9,rfl, -⟩:=zc8 HO.out
    have q0:(0:Int)<=(k:Int):=by omega
    have al:=Za (av.out.trans HE.out)
    by_cases hlt:k<2+n
    ·obtain ⟨b',o',e9,aA,ak⟩:=(HV1.out.ext HE.out).word hlt
     cases e9
     have q1:(k:Int)<2+(n:Int):=by omega
     have aj:k<L.length:=by rw [HM.out];exact hlt
     have ad:=zcD ao aj ai.out
     have ag:=zfE ao aj ai.out
     have aC:=aE.out k
     have aJ:=aD.out
     obtain ⟨x,hx⟩:∃x,L.getD k []=x:=⟨_,rfl⟩
     rw [hx] at ak ad ag aC
     have aa:=Za (fun (w':World)=>zfT x (by omega) w')
     unfold Num7R num7I at aa
     clear hx aj
     cases hq:num7 x with
     | none =>
      rw [hq] at aa
      have HN:=Za (show hdrR s word _ n=none by rw [ar.out,ag hq];rfl)
      clear ad ag hq
      go_wp2_with (first
       | (go_at_call 32;((with_reducible refine (aa.out _).mono ?_);rintro e w2 ⟨rfl,hq2⟩)))
      exact bodyPost_ret (v := .tuple #[.string ⟨#[]⟩,.slice none 0 0,.bool false]) (by simp [results,Tryz.f53,go_sem]) rfl (HdR.no (S:=[]) HN.out (by have h9:=al.out;repeat (first|exact zr _|assumption|refine za ?_ _|refine zd ?_|refine zn ?_ _|refine zt ?_ (by assumption))))
     | some q =>
      rw [hq] at aa ad
      have ax:=Za ad
      clear ad ag hq
      go_wp2_with (first
       | (go_at_call 32;((with_reducible refine (aa.out _).mono ?_);rintro e w2 ⟨rfl,hq2⟩;have am:=Za (zx:Ext wa w2)))
       | (at_builtin;(refine zbv (w:=w1) 106 3 w2.heap.size (q:Int) (by rfl) (by rfl) Tryz.underlying106 zhN (by rfl) (by rfl) (OwnI.alloc (OwnI.ext HO.out am.out) _) ((HE.out.trans am.out).alloc _) (by simp [go_sem]) (by omega) ?_;intro v' w3 ae ac)))
      go_roundw
      case rel=>exact ⟨v',k+1,Ls++[(q:Int)],rfl,by go_num,by omega,by omega,by simp;omega,Za (by rw [show k+1-2=k-2+1 by omega];exact ae),Za (by rw [ax.out];rfl),ac⟩
      case measure=>simp [intOf];omega
    ·obtain rfl:k=2+n:=by omega
     obtain ⟨b',o',e9,aA,ak⟩:=(HV1.out.ext HE.out).word (k:=1) (by omega)
     cases e9
     have ap:=ai.out
     rw [show 2+n-2=n by omega,ZE (by rw [Zu,HM.out];omega)] at ap
     have HY:=Za (show hdrR s word _ n=some (L.getD (2-1) [],Ls) by rw [ar.out,ap];rfl)
     obtain ⟨A8,c8,e8,aB⟩:=zc8 HO.out
     cases e8
     have aw:=Za aB
     generalize L.getD 1 []=Z at *
     have q1:¬(((2+n:Nat):Int)<2+(n:Int)):=by omega
     go_wp2_with fail
     exact bodyPost_ret (v := .tuple #[.string ⟨Z.toArray⟩,.slice A9 (2+n-2) c9,.bool true]) (by simp [results,Tryz.f53,go_sem]) rfl (HdR.yes HY.out (by omega) al.out aw.out)
end Go.Proofs.YtkneghkbgingdaaGreatDoor
/- The text of a pattern,plain: the rounds of Text. -/
namespace Go.Proofs.YtkneghkbgingdaaGreatDoor
set_option maxRecDepth 100000
def TxSt (nm:List UInt8) (g1 g2 g3 g4:Int) (st:List Stf) (se:List Sec) (k:Nat) (T:List UInt8):Prop:=patX nm g1 g2 g3 g4 st se=(secsT (se.drop k)).map (T ++ ·)
section
variable {nm:List UInt8} {g1 g2 g3 g4:Int} {st:List Stf} {se:List Sec} {k:Nat} {T:List UInt8}
theorem TxSt.start (nm:List UInt8) (g1 g2 g3 g4:Int) (st:List Stf) (se:List Sec):TxSt nm g1 g2 g3 g4 st se 0 (pw++32::nm++10::(gaugeL g1 g2 g3 g4++10::stufT st)):=by
 unfold TxSt patX
 rw [List.drop_zero]
 cases secsT se with
 | none=>rfl
 | some t=>simp
theorem zhv (hk:k<se.length):se.drop k=se.getD k sec0::se.drop (k+1):=by
 exact zpE
theorem TxSt.next (h:TxSt nm g1 g2 g3 g4 st se k T) (hk:k<se.length) (hr:rowsE (se.getD k sec0).s (se.getD k sec0).rows=0) :
  TxSt nm g1 g2 g3 g4 st se (k+1) (T++(line3 cw (se.getD k sec0).nm (se.getD k sec0).s++10::rowsV (se.getD k sec0).s (se.getD k sec0).rows)):=by
 unfold TxSt at h ⊢
 rw [h,zhv hk,secsT,if_neg (fun h9=>h9 hr)]
 cases secsT (se.drop (k+1)) with
 | none=>rfl
 | some t=>simp
theorem TxSt.none (h:TxSt nm g1 g2 g3 g4 st se k T) (hk:k<se.length) (hr:rowsE (se.getD k sec0).s (se.getD k sec0).rows≠0):patX nm g1 g2 g3 g4 st se=none:=by
 unfold TxSt at h
 rw [h,zhv hk,secsT,if_pos hr]
 rfl
theorem TxSt.fin (h:TxSt nm g1 g2 g3 g4 st se k T) (hk:se.length<=k):patX nm g1 g2 g3 g4 st se=some T:=by
 unfold TxSt at h
 rw [h,List.drop_eq_nil_of_le hk]
 simp [secsT]
end
theorem zeg {st:List Stf} {k:Nat} (hk:k<st.length):stufT (st.take (k+1))=stufT (st.take k)++(line3 sw (stN st k) (st.getD k stf0).g++[10]):=by
 unfold stufT stN
 rw [List.take_add_one,Zd hk,List.map_append,unl,Z1,Zc,Zd hk]
 simp [unl]
theorem zfU {s:Int} {l:List Ro}:(rowsV s l).length<=60000:=by
 by_cases h:rowsE s l=0
 ·obtain ⟨_,T,h3,h4,h5⟩:=zkY h
  rw [h5]
  exact h4
 ·rw [rowsV,if_neg h]
  simp
theorem znp {nm:List UInt8} {ge:Int} {st:List Stf} {se:List Sec} (h:patE nm ge st se=0):st.length<=20/\se.length<=20/\nm.length<=40/\ge=0/\(∀k,k<st.length->(stN st k).length<=40/\1<=(st.getD k stf0).g/\(st.getD k stf0).g<=100000)/\∀k,k<se.length->(seN se k).length<=40/\chkC (se.getD k sec0).s (se.getD k sec0).rows=0:=by
 unfold patE at h
 split at h
 ·cases h
 ·rename_i h1
  split at h
  ·rename_i h2
   split at h
   ·cases h
   ·rename_i h3
    unfold fineP at h2
    simp only [Zt,ZG] at h2
    obtain ⟨⟨⟨⟨⟨a1,a2⟩,a3⟩,a4⟩,a5⟩,a6⟩:=h2
    have hw:∀ {s:List UInt8},wordS s=true->s.length<=40:=fun {s} h9=>by
     unfold wordS at h9
     simp only [Zt,ZG] at h9
     exact h9.1.2
    refine ⟨by omega,by omega,hw a1,a5,fun k hk=>⟨hw (Zq.1 a2 k (ZP.2 hk)),?_⟩,fun k hk=>⟨hw (Zq.1 a3 k (ZP.2 hk)),zjP _ _ h k (Zy _) (by omega)⟩⟩
    have:=Zq.1 a6 k (ZP.2 hk)
    simpa using this
  ·cases h
end Go.Proofs.YtkneghkbgingdaaGreatDoor
