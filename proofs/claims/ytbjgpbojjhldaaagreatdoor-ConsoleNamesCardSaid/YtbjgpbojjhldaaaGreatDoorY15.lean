/- The other ways through read; and what read returns of whatever word. -/
import Derived.Test.YtbjgpbojjhldaaaGreatDoorY14
set_option maxHeartbeats 16000000
namespace Go.Proofs.YtbjgpbojjhldaaaGreatDoor
set_option maxRecDepth 100000
open Go.RowKit
theorem zdG {P:Program} {w:World} (ts:Array TypeId) (t:TypeId) (x y:Int):(Builtin.min_ ts t #[.int .i64 x,.int .i64 y]).run P w = .ok (.int .i64 (min x y)) w:=by
 rw [run_min_int2]
 congr 2
 split <;> omega
theorem zqb (l:List UInt8) (hE:(l==[121,111])=true) (w:World) :
  Calls Tryz.prog 147 #[.string ⟨l.toArray⟩] w fun e w'=>e = .returned (.tuple #[.agg #[.int .u8 2,.bool false,.int .i64 0,.int .i64 0],.int .i64 1])/\Ext w w':=by
 go_enter Tryz.func147,Tryz.ntmps147
 go_wp2
 exact bodyPost_ret (v := .tuple #[.agg #[.int .u8 2,.bool false,.int .i64 0,.int .i64 0],.int .i64 1]) (by simp [results,Tryz.f147,go_sem]) rfl ⟨rfl,by repeat (first | exact Ze _ | assumption | refine ZD ?_ _ | refine ZR ?_ | refine Ext.set ?_ (by simp) _ | refine Zm ?_ (by assumption))⟩
theorem zp9 (l T:List UInt8) (hl:l.length<=100000) (hE:(l==[121,111])=false) (hP:[111,110].isPrefixOf l=true) (h2:2<=l.length) (hT:T.length<=l.length) (hx:(⟨l.toArray⟩:ByteArray).extract 2 l.length=⟨T.toArray⟩) (w:World) (hg:Glob w) :
  Calls Tryz.prog 147 #[.string ⟨l.toArray⟩] w fun e w'=>e = .returned (.tuple #[.agg #[.int .u8 9,.bool false,.int .i64 (numR T).1,.int .i64 0],.int .i64 1])/\Ext w w':=by
 have HG:=Za hg
 have HP:=Za hP
 have q0:(2:Int)<=(l.length:Int):=by omega
 clear hg hP
 go_enter Tryz.func147,Tryz.ntmps147
 go_upto_region 5 with (first
  | (go_at_call 185;(((with_reducible refine (zaQ l [111,110] _).mono ?_);rintro e w1 ⟨rfl,rfl⟩;rw [HP.out])))
  | (go_at_call 186;(((with_reducible refine (zaw T (by omega) _ (HG.out.ext (by repeat (first | exact Ze _ | assumption | refine ZD ?_ _ | refine ZR ?_ | refine Ext.set ?_ (by simp) _ | refine Zm ?_ (by assumption))))).mono ?_);rintro e w2 ⟨rfl,ab⟩;have aa:=Za ((Bx.new w _ _ _ _ _).ext ab);have ac:=Za (Zm ((Ze w).alloc _) ab);obtain ⟨⟨b0,b1,b2,b3⟩,f0,f1,f2,f3⟩:=aa.out))))
 go_wp2
 obtain ⟨WF,hWF⟩:∃WF,(((w2.setCell ⟨w.heap.size,0,none⟩ (.int .u8 9)).setCell ⟨w.heap.size,1,none⟩ (.bool false)).setCell ⟨w.heap.size,2,none⟩ (.int .i64 (numR T).1)).setCell ⟨w.heap.size,3,none⟩ (.int .i64 0)=WF:=⟨_,rfl⟩
 have HX:=Za (show Ext w WF by rw [<-hWF];exact (((ac.out.set (by simp) _).set (by simp) _).set (by simp) _).set (by simp) _)
 obtain ⟨y0,y1,y2,y3⟩:=zsu aa.out.has hWF
 rw [hWF]
 exact bodyPost_ret (v := .tuple #[.agg #[.int .u8 9,.bool false,.int .i64 (numR T).1,.int .i64 0],.int .i64 1]) (by simp [results,Tryz.f147,go_sem,y0,y1,y2,y3]) rfl ⟨rfl,HX.out⟩
theorem zZ6 {p:Prop} (h:p:=by
 clear hP
 go_enter Tryz.func147,Tryz.ntmps147
 go_wp2_with (go_at_call 185;(((with_reducible refine (zaQ l [111,110] _).mono ?_);rintro e w1 ⟨rfl,rfl⟩;rw [HP.out])))
 exact bodyPost_ret (v := .tuple #[.agg #[.int .u8 0,.bool false,.int .i64 0,.int .i64 0],.int .i64 1]) (by simp [results,Tryz.f147,go_sem]) rfl ⟨rfl,by repeat (first | exact Ze _ | assumption | refine ZD ?_ _ | refine ZR ?_ | refine Ext.set ?_ (by simp) _ | refine Zm ?_ (by assumption))⟩):p:=h
theorem zp8 (l:List UInt8) (hE:(l==[121,111])=false) (hP:[111,110].isPrefixOf l=false) (he:l.isEmpty=true) (w:World) :
  Calls Tryz.prog 147 #[.string ⟨l.toArray⟩] w fun e w'=>e = .returned (.tuple #[.agg #[.int .u8 0,.bool false,.int .i64 0,.int .i64 0],.int .i64 1])/\Ext w w':=by
 have HP:=Za hP
 exact zZ6
theorem znm (l:List UInt8) (c:UInt8) (hE:(l==[121,111])=false) (hP:[111,110].isPrefixOf l=false) (he:l.isEmpty=false) (hl:0<l.length) (h0:∀h,(⟨l.toArray⟩:ByteArray)[0]'h=c) (h1:((c.toNat:Int) != 107)=true) (h2:((c.toNat:Int) != 112)=true) (w:World) :
  Calls Tryz.prog 147 #[.string ⟨l.toArray⟩] w fun e w'=>e = .returned (.tuple #[.agg #[.int .u8 0,.bool false,.int .i64 0,.int .i64 0],.int .i64 1])/\Ext w w':=by
 have HP:=Za hP
 have q0:(0:Int)<(l.length:Int):=by omega
 exact zZ6
theorem zfy (l R:List UInt8) (N:Int) (c:UInt8) (cv:Bool) (hc:c=107/\cv=false∨c=112/\cv=true) (hl:l.length<=100000) (hR:R.length+1=l.length) (hE:(l==[121,111])=false) (hP:[111,110].isPrefixOf l=false)
  (h0:∀h,(⟨l.toArray⟩:ByteArray)[0]'h=c) (hx:(⟨l.toArray⟩:ByteArray).extract 1 l.length=⟨R.toArray⟩) (hn:(numR R).1=N) (hy:R.isEmpty=true∨R.isEmpty=false/\0<=N) (w:World) (hg:Glob w) :
  Calls Tryz.prog 147 #[.string ⟨l.toArray⟩] w fun e w'=>e = .returned (.tuple #[.agg #[.int .u8 1,.bool cv,.int .i64 0,.int .i64 0],.int .i64 (min (max N 1) 201)])/\Ext w w':=by
 have HG:=Za hg
 have HN:=Za hn
 have HP:=Za hP
 have q0:(0:Int)<(l.length:Int):=by omega
 have q2:(1:Int)<=(l.length:Int):=by omega
 have l0:l.isEmpty=false:=by cases l with
  | nil=>simp at hR
  | cons _ _=>rfl
 have m1:∀(ts:Array TypeId) (t:TypeId) (W:World),(Builtin.max_ ts t #[.int .i64 N,.int .i64 1]).run Tryz.prog W = .ok (.int .i64 (max N 1)) W:=fun ts t W=>zbk ts t N 1
 have m2:∀(ts:Array TypeId) (t:TypeId) (W:World),(Builtin.min_ ts t #[.int .i64 (max N 1),.int .i64 201]).run Tryz.prog W = .ok (.int .i64 (min (max N 1) 201)) W:=fun ts t W=>zdG ts t _ _
 clear hg hn hP
 rcases hc with ⟨rfl,rfl⟩ | ⟨rfl,rfl⟩ <;> rcases hy with he | ⟨he,h5⟩
 all_goals
  go_enter Tryz.func147,Tryz.ntmps147
  go_upto_region 13 with (first
   | (go_at_call 185;(((with_reducible refine (zaQ l [111,110] _).mono ?_);rintro e w1 ⟨rfl,rfl⟩;rw [HP.out])))
   | (go_at_call 186;((with_reducible refine (zaw R (by omega) _ (HG.out.ext exS)).mono ?_);rintro e w2 ⟨rfl,ab⟩;rw [HN.out];have aa:=Za ((Bx.new w _ _ _ _ _).ext ab);have ac:=Za (Zm ((Ze w).alloc _) ab);obtain ⟨⟨b0,b1,b2,b3⟩,f0,f1,f2,f3⟩:=aa.out)))
  have hB9:=aa.out.set0 (.int .u8 1)
  have hX9:Ext w (w2.setCell ⟨w.heap.size,0,none⟩ (.int .u8 1)):=ac.out.set (by simp) _
  obtain ⟨W9,hW9⟩:∃W9,w2.setCell ⟨w.heap.size,0,none⟩ (.int .u8 1)=W9:=⟨_,rfl⟩
  exact zZ4
end Go.Proofs.YtbjgpbojjhldaaaGreatDoor
/- grid: Check and Text of a valid grid. -/
namespace Go.Proofs.YtbjgpbojjhldaaaGreatDoor
set_option maxRecDepth 100000
open Go.RowKit Go.ChangeShapes Go.WideShapes Go.Joins
abbrev gridV (A:Option Addr) (c:Nat) (g:Gd):Value := .agg #[.int .i64 (g.w:Int),.int .i64 (g.h:Int),.slice A g.b.length c]
theorem za1 (A:Option Addr) (c:Nat) (g:Gd) (hg:okG g) (w:World) :
  Calls Tryz.prog 59 #[gridV A c g] w fun e w'=>e = .returned (.int .i64 0)/\Ext w w':=by
 obtain ⟨h1,h2,h3,h4,h5⟩:=hg
 obtain ⟨W,H,B⟩:=g
 simp only at h1 h2 h3 h4 h5
 have m1:∀(ts:Array TypeId) (t:TypeId) (w:World),(Builtin.max_ ts t #[.int .i64 (W:Int),.int .i64 (H:Int)]).run Tryz.prog w = .ok (.int .i64 (max (W:Int) (H:Int))) w:=fun ts t w=>zbk ts t _ _
 have m2:∀(ts:Array TypeId) (t:TypeId) (w:World),(Builtin.min_ ts t #[.int .i64 (W:Int),.int .i64 (H:Int)]).run Tryz.prog w = .ok (.int .i64 (min (W:Int) (H:Int))) w:=fun ts t w=>zdG ts t _ _
 obtain ⟨M,hM⟩:∃M,max (W:Int) (H:Int)=M:=⟨_,rfl⟩
 obtain ⟨N,hN⟩:∃N,min (W:Int) (H:Int)=N:=⟨_,rfl⟩
 rw [hM] at m1
 rw [hN] at m2
 have q1:¬(64:Int)<M:=by omega
 have q2:¬N<(1:Int):=by omega
 have hb:W*H<=4096:=Nat.mul_le_mul h2 h4
 have hp:(W:Int)*(H:Int)=(B.length:Int):=by rw [h5];simp
 have i1:=Zj (B.length:Int) (by omega)
 have q3:((B.length:Int) != (B.length:Int))=false:=by simp
 clear hM hN h5 hb
 go_enter Tryz.func59,Tryz.ntmps59
 go_wp2
 go_ret
 exact ⟨rfl,zx⟩
theorem zn0 {W0 w0 w:World} {b:Nat} {l:List UInt8} (h:WSt W0 w0 b l w) (hl:l.length<=1000000000) :
  Calls Tryz.prog 93 #[.pointer (some ⟨b,0,none⟩),.int .u8 10] w fun e w'=>e = .returned .nilIface/\WSt W0 w0 b (l++[10]) w':=zcH 10 10 (by rfl) h hl
theorem zn4 {W0 w0 w:World} {b:Nat} {l:List UInt8} (h:WSt W0 w0 b l w) (hl:l.length<=1000000000) :
  Calls Tryz.prog 93 #[.pointer (some ⟨b,0,none⟩),.int .u8 46] w fun e w'=>e = .returned .nilIface/\WSt W0 w0 b (l++[46]) w':=zcH 46 46 (by rfl) h hl
theorem zlF {W0 w0 w:World} {b:Nat} {l:List UInt8} (h:WSt W0 w0 b l w) (hl:l.length<=1000000000) :
  Calls Tryz.prog 93 #[.pointer (some ⟨b,0,none⟩),.int .u8 120] w fun e w'=>e = .returned .nilIface/\WSt W0 w0 b (l++[120]) w':=zcH 120 120 (by rfl) h hl
theorem zj1 {g:Gd} (hg:okG g) {k:Nat} (hk:k<=g.h):(gtxGo g k).length<=5000:=by
 rw [zpm g hg k hk]
 have h1:=hg.2.1
 have h2:=hg.2.2.2.1
 have:k*(g.w+1)<=64*65:=Nat.mul_le_mul (by omega) (by omega)
 omega
theorem zit (A:Option Addr) (c:Nat) (g:Gd) (hg:okG g) (hc:g.b.length<=c) (w:World) (hv:GridAt w A g) :
  Calls Tryz.prog 108 #[gridV A c g] w fun e w'=>e = .returned (.tuple #[.string ⟨(gtxV g).toArray⟩,.int .i64 0])/\Ext w w':=by
 have ad:=Za hg
 obtain ⟨b,off,rfl,hb, -⟩:=zbC hv hg
 have HV:=Za hv
 obtain ⟨h1,h2,h3,h4,h5⟩:=hg
 have aj:=Za (fun (k:Nat) (hk:k<g.h)=>za3 ad.out hk)
 have HP:=Za (fun (k:Nat) (hk:k<g.h)=>(⟨by rw [h5,Nat.mul_comm];exact Nat.mul_le_mul_left _ (by omega),by
  have:=zet ad.out (x:=0) (y:=k) (by omega) hk
  omega⟩:(k+1)*g.w<=g.b.length/\k*g.w<g.b.length))
 have aE:=zeD ad.out
 obtain ⟨W,hW⟩:∃W,g.w=W:=⟨_,rfl⟩
 obtain ⟨H,hH⟩:∃H,g.h=H:=⟨_,rfl⟩
 obtain ⟨L,hL⟩:∃L,g.b.length=L:=⟨_,rfl⟩
 have aA:=Za (show gtxV g=gtxGo g H by rw [<-hH];rfl)
 have ak:=Za (fun (k:Nat)=>(show g.row k=(g.b.drop (k*W)).take W by rw [<-hW];rfl))
 have ay:=Za (fun (k:Nat) (hk:k<=H)=>zj1 (k:=k) ad.out (by omega))
 have am:=Za (show ∀w',Calls Tryz.prog 59 #[.agg #[.int .i64 (W:Int),.int .i64 (H:Int),.slice (some ⟨b,off,none⟩) L c]] w' fun e w''=>e = .returned (.int .i64 0)/\Ext w' w'' from fun w'=>by
  rw [<-hW,<-hH,<-hL]
  exact za1 _ c g ad.out w')
 unfold gridV
 rw [hW,hH,hL]
 rw [hW] at h1 h2 HP aj
 rw [hH] at h3 h4 HP aj
 rw [hL] at hc aE HP
 have aq:=Za (⟨hW,hH,hL⟩:g.w=W/\g.h=H/\g.b.length=L)
 clear h5 hv hW hH hL
 go_enter Tryz.func108,Tryz.ntmps108
 go_wp2_with (go_at_call 59;((with_reducible refine (am.out _).mono ?_);rintro e w1 ⟨rfl,ai⟩;obtain ⟨hc1,hf1,hz1⟩:=ai.facts))
 have al:=Za (show WSt w1 (w1.alloc (.cells #[.pointer none,.slice none 0 0] 75)) w1.heap.size [] (w1.alloc (.cells #[.pointer none,.slice none 0 0] 75)) from ⟨zf6 w1 _ _ _ (Zb _),(Ze _).alloc _,Lib.OthersKept.refl _ _ _⟩)
 obtain ⟨W2,au⟩:∃W2,w1.alloc (.cells #[.pointer none,.slice none 0 0] 75)=W2:=⟨_,rfl⟩
 rw [au] at al ⊢
 have ao:=Za (show Ext w w1 from ((Ze _).alloc _).trans ai)
 have k1:=(Ext.facts ai)
 have b0:=hc1 w.heap.size 0 (by simp)
 have b1:=hc1 w.heap.size 1 (by simp)
 have b2:=hc1 w.heap.size 2 (by simp)
 have aa:w.heap.size<w1.heap.size:=hz1 w.heap.size (by simp)
 have hltb:b<w1.heap.size:=hz1 b (by simp;omega)
 have ax:=Za (HV.out.ext ao.out)
 simp [World.cell?_alloc_new] at b0 b1 b2
 clear au hc1 hf1 hz1 k1 am ai
 go_loopw [6] (fun yy wr=>∃(k:Nat) (y:Int) (T:List UInt8),yy = .int .i64 y/\y=(k:Int)-1/\k<=H/\Hid (WSt w1 W2 w1.heap.size T wr)/\Hid (T++gtxGo g k=gtxGo g H)) (fun yy _=>(intOf yy+1).toNat)
 case atStart=>exact ⟨H,_,[],rfl,rfl,Zb _,al,Za rfl⟩
 case round =>
  obtain ⟨k,y,T,rfl,hy,hk,HS,HT⟩:=hrel
  by_cases hk0:k=0
  ·subst hk0
   obtain rfl:y = -1:=by omega
   clear hy
   have aB:=Za (show T=gtxV g by rw [aA.out,<-HT.out];simp [gtxGo])
   go_wp2_with (go_at_call 38;((refine (Tryz.Builder_String_any_k w1.heap.size _ T _ HS.out.bl (Zt HS.out.ex)).mono ?_);rintro e w4 ⟨rfl, -,aF, -⟩;have az:=Za (Below.trans HS.out.ex aF)))
   go_ret2
   exact ⟨by rw [aB.out];rfl,ao.out.trans (by have:=az.out;repeat (first|exact zr _|assumption|refine za ?_ _|refine zd ?_|refine zn ?_ _|refine zt ?_ (by assumption)))⟩
  ·obtain ⟨j,rfl⟩:∃j,k=j+1:=⟨k-1,by omega⟩
   obtain rfl:y=(j:Int):=by omega
   clear hy
   have hj:j<H:=by omega
   obtain ⟨p1,p2⟩:=HP.out j hj
   have hrl:=aj.out j hj
   obtain ⟨lo,hlo⟩:∃lo,j*W=lo:=⟨_,rfl⟩
   obtain ⟨hi,ah⟩:∃hi,(j+1)*W=hi:=⟨_,rfl⟩
   have aw:hi=lo+W:=by rw [<-ah,<-hlo,Nat.add_mul,Nat.one_mul]
   have m1:(j:Int)*(W:Int)=(lo:Int):=by rw [<-hlo];simp
   have m2:((j:Int)+1)*(W:Int)=(hi:Int):=by rw [<-ah];simp
   rw [hlo] at p2
   rw [ah] at p1
   have ae:=Za (show g.row j=(g.b.drop lo).take (hi-lo) by rw [ak.out j,hlo,aw,Nat.add_sub_cancel_left])
   have ap:=Za (show Vec shBool w1 (some ⟨b,off+lo,none⟩) (hi-lo) (g.row j) by
    rw [ae.out]
    exact zaD (ax.out) (by omega) (by have:=aq.out.2.2;omega) (by have:=aq.out.2.2;omega))
   have aC:=Za (show T++((g.row j).map cellB++10::gtxGo g j)=gtxGo g H by rw [<-HT.out];rfl)
   have htl:T.length<=5000:=by
    have h9:=congrArg List.length HT.out
    rw [Zc] at h9
    have h8:=ay.out H (Zb _)
    omega
   obtain ⟨ks1,ks2,ks3⟩:=HS.out.ex.facts
   have d0:=(ks1 w.heap.size 0 aa).trans b0
   have d1:=(ks1 w.heap.size 1 aa).trans b1
   have d2:=(ks1 w.heap.size 2 aa).trans b2
   have q0:(0:Int)<=(j:Int):=by omega
   have q1:(lo:Int)<=(hi:Int):=by omega
   have q2:(hi:Int)<=(c:Int):=by omega
   have q3:¬c=lo:=by omega
   have q4:(0:Int)<=(lo:Int):=by omega
   have q5:(hi:Int)<=4096:=by omega
   have hd:hi-lo=W:=by omega
   rw [hd] at ap
   clear hlo ah ks1 ks2 ks3 p1 p2 aw
   go_wp2_with fail
   clear d0 d1 d2
   go_loopw [34] (fun xx wi=>∃x:Nat,xx = .int .i64 x/\x<=W/\Hid (WSt w1 W2 w1.heap.size (T++((g.row j).take x).map cellB) wi)) (fun xx _=>W-(intOf xx).toNat)
   case atStart=>exact ⟨0,rfl,by omega,Za (by simpa using HS.out)⟩
   case round =>
    obtain ⟨x,rfl,hx,ab⟩:=hrel
    have af:(T++((g.row j).take x).map cellB).length<=1000000000:=by rw [Zc,List.length_map,Zw];omega
    by_cases hxl:x<W
    ·obtain ⟨b',off',e',aD,av⟩:=zaX ap.out (by omega)
     obtain ⟨rfl,rfl⟩:b=b'/\off+lo=off':=by simpa using e'
     obtain ⟨kx1, -, -⟩:=ab.out.ex.facts
     have c0:=(kx1 b _ aD).trans (av x (by omega))
     obtain ⟨v,hv⟩:∃v,(g.row j).getD x false=v:=⟨_,rfl⟩
     rw [hv] at c0
     have ac:=Za (show (T++((g.row j).take x).map cellB)++[cellB v]=T++((g.row j).take (x+1)).map cellB by
      have e9:(g.row j).take (x+1)=(g.row j).take x++[v]:=by
       rw [List.take_succ_eq_append_getElem (by omega),<-hv,Zd,Zf (by omega)]
       rfl
      rw [e9,List.map_append,Zr]
      rfl)
     have r0:(0:Int)<=(x:Int):=by omega
     have r1:(x:Int)<(W:Int):=by omega
     obtain ⟨TX,ar⟩:∃TX,T++((g.row j).take x).map cellB=TX:=⟨_,rfl⟩
     rw [ar] at ab ac af
     clear kx1 av e' hv ar
     cases v
     ·go_wp2_with (go_at_call 93;((with_reducible refine (zn4 ab.out af).mono ?_);rintro e w5 ⟨rfl,ag⟩))
      go_roundw
      case rel=>exact ⟨x+1,by go_num,by omega,Za (by rw [<-ac.out];exact ag)⟩
      case measure=>simp [intOf];omega
     ·go_wp2_with (go_at_call 93;((with_reducible refine (zlF ab.out af).mono ?_);rintro e w5 ⟨rfl,ag⟩))
      go_roundw
      case rel=>exact ⟨x+1,by go_num,by omega,Za (by rw [<-ac.out];exact ag)⟩
      case measure=>simp [intOf];omega
    ·obtain rfl:x=W:=by omega
     have ac:=Za (show T++((g.row j).take x).map cellB=T++(g.row j).map cellB by rw [Zs (by omega)])
     rw [ac.out] at ab af
     go_wp2_with (go_at_call 93;((with_reducible refine (zn0 ab.out af).mono ?_);rintro e w5 ⟨rfl,ag⟩))
     go_roundw
     case rel=>exact ⟨j,(j:Int)-1,T++(g.row j).map cellB++[10],by go_num,rfl,by omega,Za ag,Za (by rw [<-aC.out];simp)⟩
     case measure=>simp [intOf] <;> omega
end Go.Proofs.YtbjgpbojjhldaaaGreatDoor
/- Bounds of what the console prints of a cloth. -/
namespace Go.Proofs.YtbjgpbojjhldaaaGreatDoor
set_option maxRecDepth 100000
theorem zc0:∀(L S:List (List Bool)),(kindsV L S).length<=S.length+L.length
 | [],S=>by rw [kindsV];omega
 | l::r,S=>by
  rw [kindsV]
  split
  ·have:=zc0 r S;simp only [Zk];omega
  ·have:=zc0 r (S++[l]);simp only [Zc,Zk,List.length_nil] at this ⊢;omega
theorem zke {g:Gd} {c:Nat}:∀(f b x:Nat),latB g c f b=some x->x<b+f
 | 0,b,x,h=>by rw [latB] at h;cases h
 | f+1,b,x,h=>by
  rw [latB] at h
  split at h
  ·cases h;omega
  ·have:=zke f (b+1) x h;omega
theorem zkf (g:Gd) (a:Nat):∀(f c:Nat),(latC g a f c).1<=a/\(latC g a f c).2<=c+f
 | 0,c=>by rw [latC];simp only;omega
 | f+1,c=>by
  rw [latC]
  split
  ·rename_i b h
   have:=zke _ _ _ h
   simp only;omega
  ·have:=zkf g a f (c+1);omega
theorem zfc {g:Gd} (hg:okG g):∀x∈[((facV g).1:Int),((facV g).2:Int)], -1000000000000<=x/\x<=1000000000000:=by
 obtain ⟨h1,h2,h3,h4,h5⟩:=hg
 have a1:=zc0 (rowsG (turnG g)) []
 have a2:=zc0 (rowsG g) []
 have r1:(rowsG (turnG g)).length=g.w:=by simp [rowsG,turnG]
 have r2:(rowsG g).length=g.h:=by simp [rowsG]
 have e1:(facV g).1<=64:=by rw [facV];simp only [List.length_nil] at a1;simp only;omega
 have e2:(facV g).2<=64:=by rw [facV];simp only [List.length_nil] at a2;simp only;omega
 intro x hx
 simp only [Zx,List.not_mem_nil,or_false] at hx
 rcases hx with rfl | rfl <;> omega
theorem zfs {g:Gd} (hg:okG g):∀x∈[((latV g).1:Int),((latV g).2.1:Int),((latV g).2.2:Int)], -1000000000000<=x/\x<=1000000000000:=by
 obtain ⟨h1,h2,h3,h4,h5⟩:=hg
 have e1:(latV g).1<=g.w:=by rw [latV];exact (zpt g g.w 1 (by omega) (by omega) (by omega)).2
 have e2:=zkf g (latA g g.w 1) g.h 1
 have e3:(latV g).2.1<=g.w:=by rw [latV];rw [latV] at e1;simp only at e1 ⊢;omega
 have e4:(latV g).2.2<=1+g.h:=by rw [latV];exact e2.2
 intro x hx
 simp only [Zx,List.not_mem_nil,or_false] at hx
 rcases hx with rfl | rfl | rfl <;> omega
end Go.Proofs.YtbjgpbojjhldaaaGreatDoor
/- Floats: threads and what is found on them,in plain Lean. -/
namespace Go.Proofs.YtbjgpbojjhldaaaGreatDoor
set_option maxRecDepth 100000
def maxN (l:List Nat):Nat:=l.foldl max 0
theorem zkm {a b:List Nat} (h:a.Perm b):maxN a=maxN b:=zmW h 0
theorem zo5 {g:Gd} {x:Nat} (hx:x<g.w):(turnG g).row x=(List.range g.h).map (fun y=>g.at x y):=by
 apply List.ext_getElem?
 intro y
 by_cases hy:y<g.h
 ·have h1:x*g.h+y<g.w*g.h:=by
   have:(x+1)*g.h<=g.w*g.h:=Nat.mul_le_mul_right _ hx
   rw [Nat.add_mul,Nat.one_mul] at this
   omega
  have e1:(x*g.h+y) / g.h=x:=by rw [Nat.mul_comm,Nat.mul_add_div (by omega),Nat.div_eq_of_lt hy,Nat.add_zero]
  have e2:(x*g.h+y) % g.h=y:=by rw [Nat.mul_comm,Nat.mul_add_mod,Nat.mod_eq_of_lt hy]
  show ((List.map _ (List.range (g.w*g.h))).drop (x*g.h) |>.take g.h)[y]?=_
  rw [List.getElem?_take_of_lt hy,ZZ,List.getElem?_map,List.getElem?_range h1,List.getElem?_map,List.getElem?_range hy]
  simp only [Option.map_some,e1,e2]
 ·rw [List.getElem?_eq_none (by show ((List.map _ (List.range (g.w*g.h))).drop (x*g.h) |>.take g.h).length<=y;rw [Zw];omega),
   List.getElem?_eq_none (by simp;omega)]
theorem zpI {g:Gd} {y:Nat} (hg:okG g) (hy:y<g.h):(g.row y).map (fun x => !x)=(List.range g.w).map (fun x => !g.at x y):=by
 apply List.ext_getElem?
 intro x
 by_cases hx:x<g.w
 ·have h1:=zrx (g:=g) (y:=y) hx
  rw [Zd,Zf (by rw [za3 hg hy];exact hx)] at h1
  rw [List.getElem?_map,List.getElem?_map,List.getElem?_range hx,Zf (by rw [za3 hg hy];exact hx)]
  simp only [Option.map_some]
  rw [show (g.row y)[x]'(by rw [za3 hg hy];exact hx)=g.at x y from h1]
 ·rw [List.getElem?_eq_none (by simp [za3 hg hy];omega),List.getElem?_eq_none (by simp;omega)]
def endsG (g:Gd):List (List Bool):=(List.range g.w).map (fun x=>(List.range g.h).map (fun y=>g.at x y))
def picksG (g:Gd):List (List Bool):=(List.range g.h).map (fun y=>(List.range g.w).map (fun x => !g.at x y))
theorem zrL {g:Gd} (hg:okG g):thrG g=endsG g++picksG g:=by
 rw [thrG]
 congr 1
 ·rw [rowsG,endsG]
  apply List.map_congr_left
  intro x hx
  exact zo5 (ZG.1 hx)
 ·rw [rowsG,picksG,List.map_map]
  apply List.map_congr_left
  intro y hy
  exact zpI hg (ZG.1 hy)
theorem zmU {g:Gd} (hg:okG g) (face:Bool):longV g face=maxN ((endsG g++picksG g).flatMap (floV face)):=by
 rw [longV,zrL hg]
 rfl
theorem zpg {l:List Bool} {face:Bool} {n:Nat} (h:n∈floV face l):n<=l.length:=by
 rw [floV] at h
 split at h
 ·obtain rfl:n=l.length:=by simpa using h
  exact Zb _
 ·have:=(zqY _ face 0 n h).2
  simp only [Zc,ZA,Zw] at this
  omega
end Go.Proofs.YtbjgpbojjhldaaaGreatDoor
/- Bounds of a command's error and of its answer. -/
namespace Go.Proofs.YtbjgpbojjhldaaaGreatDoor
set_option maxRecDepth 100000
def ErrB (e:Int):Prop:=0<=e/\e<=100
theorem zb4:ErrB 0:=by unfold ErrB;decide
theorem zdk:ErrB 2:=by unfold ErrB;decide
theorem zcL:ErrB 4:=by unfold ErrB;decide
theorem zdl:ErrB 6:=by unfold ErrB;decide
theorem zdm:ErrB 8:=by unfold ErrB;decide
theorem zbB:ErrB 12:=by unfold ErrB;decide
theorem zsc (a b r:Int):ErrB (lnE a b r):=by unfold ErrB lnE;split <;> decide
theorem zsj (a b:Int):ErrB (spE a b):=by unfold ErrB spE;split <;> decide
theorem zrN (a b:Int):ErrB (trnE a b):=by unfold ErrB trnE;split <;> decide
theorem zr9 (a b:Int):ErrB (edB a b):=by unfold ErrB edB;split <;> decide
theorem zqN (l:List (Int×Int)) (a b:Int):ErrB (chkE l a b):=by
 unfold ErrB chkE
 repeat' split
 all_goals decide
theorem zq0 (a b c d:Int):ErrB (gerr a b c d):=by
 unfold ErrB gerr
 repeat' split
 all_goals decide
theorem zor (l:List St):ErrB (allE l):=by
 unfold ErrB allE
 repeat' split
 all_goals decide
theorem zlm (t:Tms):ErrB (tchkE t):=by
 unfold ErrB tchkE
 repeat' split
 all_goals decide
theorem znV (t:Tms):ErrB (ttextE t):=by
 unfold ttextE
 split
 ·exact zlm t
 ·unfold ErrB;split <;> decide
theorem zsm (l:List St):ErrB (wcE l):=by
 unfold wcE
 split
 ·exact zor l
 ·unfold ErrB;split <;> decide
theorem zhR (ok:Bool) (n m v w:Int):ErrB (scaleG ok n m v w).2:=by
 unfold ErrB scaleG
 split
 ·unfold scaled;repeat' split
  all_goals (simp only;omega)
 ·decide
theorem zqX (ok:Bool) (a b x y z:Int):ErrB (fitG ok a b x y z).2:=by
 unfold ErrB fitG
 repeat' split
 all_goals (simp only;omega)
theorem zrf (st:Cs) (w:List UInt8) (l:List Int):ErrB (measV st w l).2.2:=by
 unfold measV
 split
 ·split
  ·exact zq0 _ _ _ _
  ·exact zb4
 ·split
  ·(first | exact zb4 | exact zdk | exact zcL | exact zdl | exact zdm | exact zbB)
  ·simp only
   repeat' split
   ·exact zhR _ _ _ _ _
   ·exact zhR _ _ _ _ _
   ·exact zqX _ _ _ _ _ _
theorem zr8 (w:List UInt8) (l:List Int):ErrB (cntV_ w l).2:=by
 unfold cntV_
 repeat' split
 ·exact zsc _ _ _
 ·exact zsj _ _
 ·exact zrN _ _
 ·exact zr9 _ _
 ·exact zqN _ _ _
theorem zso (at_:List UInt8->Option Int) (w x:List UInt8):ErrB (wrtV at_ w x).2:=by
 unfold wrtV
 repeat' split
 all_goals first | exact zlm _ | exact zor _ | exact zsm _ | exact zb4 | exact zbB | (unfold fndV;split <;> first | exact znV _ | exact zcL)
theorem zsn (st:Cs) (w:List UInt8) (l:List Int):ErrB (wevV st w l).2.2:=by
 unfold wevV
 repeat' split
 all_goals (first | exact zb4 | exact zdk | exact zcL | exact zdl | exact zdm | exact zbB)
theorem zrc (c:Option Gd) (w:List UInt8):ErrB (lookV c w).2:=by
 unfold lookV
 repeat' split
 all_goals (first | exact zb4 | exact zdk | exact zcL | exact zdl | exact zdm | exact zbB)
theorem zsd (st:Cs) (w:List UInt8) (l:List Int):ErrB (nmbV st w l).2.2:=by
 unfold nmbV
 repeat' split
 ·exact zrf _ _ _
 ·exact zr8 _ _
 ·exact zsn _ _ _
 ·(first | exact zb4 | exact zdk | exact zcL | exact zdl | exact zdm | exact zbB)
theorem zst (at_:List UInt8->Option Int) (st:Cs) (line:List UInt8):ErrB (doV at_ st line).2.2:=by
 unfold doV
 split
 ·simp only
  split
  ·(first | exact zb4 | exact zdk | exact zcL | exact zdl | exact zdm | exact zbB)
  ·exact zso _ _ _
 ·split
  ·simp only
   split
   ·(first | exact zb4 | exact zdk | exact zcL | exact zdl | exact zdm | exact zbB)
   ·exact zrc _ _
  ·split
   ·(first | exact zb4 | exact zdk | exact zcL | exact zdl | exact zdm | exact zbB)
   ·exact zsd _ _ _
theorem zba {l:List Int} (h:∀x∈l, -1000000000000<=x/\x<=1000000000000) (hn:l.length<=2000):(listV l).length<=30000:=by
 have:=zeJ h
 rw [listV];omega
theorem zgK {p:Int×Int} (h0:0<=p.1) (h1:p.1<=1000000):(oneV p).1.length<=14:=zcd (by omega) (by omega)
theorem zmX (st:Cs) (w:List UInt8) (l:List Int):(measV st w l).2.1.length<=100000:=by
 unfold measV
 split
 ·split
  ·simp
  ·simp [okB]
 ·split
  ·simp
  ·rename_i a b c d _
   simp only
   split
   ·exact Zv (zgK (zbZ a b c d _).1 (zbZ a b c d _).2) (by decide)
   ·split
    ·exact Zv (zgK (zgW a b c d _).1 (zgW a b c d _).2) (by decide)
    ·exact Zv (zgK (zjI a b c d _ _ _).1 (zjI a b c d _ _ _).2) (by decide)
theorem zo3 (w:List UInt8) (l:List Int):(cntV_ w l).1.length<=100000:=by
 unfold cntV_
 repeat' split
 ·exact Zv (zba (zcz _ _ _).1 (zcz _ _ _).2) (by decide)
 ·exact Zv (zba (zdT _ _) (by simp)) (by decide)
 ·exact Zv (zba (zdQ _ _).1 (zdQ _ _).2) (by decide)
 ·simp
 ·have h:=zdI (l.getD 0 0) (l.getD 1 0)
  have h1:=zba h.1.1 h.1.2
  have h2:=zba h.2.1 h.2.2
  simp only [Zc,Zk,List.length_nil]
  omega
theorem zrS (l:List St):(wcV l).length<=2000:=by
 unfold wcV
 split
 ·rename_i h
  unfold wcE at h
  split at h
  ·rename_i h2;exact absurd h h2
  ·split at h
   ·cases h
   ·omega
 ·simp
theorem zly (t:Tms):(ttextV t).length<=3000:=by
 unfold ttextV
 split
 ·rename_i h
  unfold ttextE at h
  split at h
  ·rename_i h2;exact absurd h h2
  ·split at h
   ·cases h
   ·omega
 ·simp
theorem zqE (at_:List UInt8->Option Int) (w x:List UInt8):(wrtV at_ w x).1.length<=100000:=by
 unfold wrtV
 split
 ·split
  ·simp
  ·rename_i l h
   exact Zv (zbL (zoB.1 h).2.1) (by decide)
 ·split
  ·split
   ·simp
   ·split
    ·simp
    ·split
     ·simp
     ·rename_i h
      exact Zv (zbL (by simpa using h)) (by decide)
  ·split
   ·simp
   ·split
    ·exact Zv (zrS _) (by decide)
    ·unfold fndV
     split
     ·simp
     ·exact Zv (zly _) (by decide)
theorem zqB (st:Cs) (w:List UInt8) (l:List Int):(wevV st w l).2.1.length<=100000:=by
 unfold wevV
 repeat' split
 all_goals simp [okB]
theorem zbU:∀(l:List Nat) (a b:Nat),a<=b->(∀n∈l,n<=b)->l.foldl max a<=b
 | [],_,_,h,_=>h
 | x::l,a,b,h,h2=>zbU l (max a x) b (Nat.max_le.2 ⟨h,h2 x (by simp)⟩) (fun n hn=>h2 n (by simp [hn]))
theorem zgC {g:Gd} (hg:okG g) (face:Bool):longV g face<=64:=zbU _ 0 64 (by omega) fun n hn=>by
 obtain ⟨t,ht,hn⟩:=ZI.1 hn
 have h1:=zpg hn
 obtain ⟨w1,w2,w3,w4,w5⟩:=hg
 rw [thrG] at ht
 rcases ZQ.1 ht with h | h
 ·obtain ⟨x, -,rfl⟩:=List.mem_map.1 h
  simp [Gd.row,turnG] at h1
  omega
 ·obtain ⟨u,hu,rfl⟩:=List.mem_map.1 h
  obtain ⟨x, -,rfl⟩:=List.mem_map.1 hu
  simp [Gd.row] at h1
  omega
theorem zfj {g:Gd} (hg:okG g):∀x∈[(longV g true:Int),(longV g false:Int)], -1000000000000<=x/\x<=1000000000000:=by
 have e1:=zgC hg true
 have e2:=zgC hg false
 intro x hx
 simp only [Zx,List.not_mem_nil,or_false] at hx
 rcases hx with rfl | rfl <;> omega
theorem zmV (c:Option Gd) (hc:∀g,c=some g->okG g) (w:List UInt8):(lookV c w).1.length<=100000:=by
 cases c with
 | none=>simp [lookV]
 | some g =>
  have hg:=hc g rfl
  unfold lookV
  simp only
  split
  ·simp only [exB,List.length_map]
   have:=zj1 hg (Zb g.h)
   rw [gtxV];omega
  ·split
   ·simp only;split <;> simp
   ·split
    ·exact Zv (zba (zfc hg) (by simp)) (by decide)
    ·split
     ·exact Zv (zba (zfj hg) (by simp)) (by decide)
     ·exact Zv (zba (zfs hg) (by simp)) (by decide)
theorem zpN (st:Cs) (w:List UInt8) (l:List Int):(nmbV st w l).2.1.length<=100000:=by
 unfold nmbV
 repeat' split
 ·exact zmX _ _ _
 ·exact zo3 _ _
 ·exact zqB _ _ _
 ·simp
theorem zqS (at_:List UInt8->Option Int) (st:Cs) (hc:∀g,st.c=some g->okG g) (line:List UInt8):(doV at_ st line).2.1.length<=100000:=by
 unfold doV
 split
 ·simp only
  split
  ·simp
  ·exact zqE _ _ _
 ·split
  ·simp only
   split
   ·simp
   ·exact zmV _ hc _
  ·split
   ·simp
   ·exact zpN _ _ _
theorem zoU (at_:List UInt8->Option Int) (st:Cs) (hc:∀g,st.c=some g->okG g) (line:List UInt8):(ansV (doV at_ st line).2).length<=100000:=by
 have h1:=zqS at_ st hc line
 have h2:=zst at_ st line
 unfold ErrB at h2
 unfold ansV
 split
 ·have h3:=zcd (n:=(doV at_ st line).2.2) (by omega) (by omega)
  simp only [Zc,errB,Zk,List.length_nil]
  omega
 ·exact h1
end Go.Proofs.YtbjgpbojjhldaaaGreatDoor
/- console.one. -/
namespace Go.Proofs.YtbjgpbojjhldaaaGreatDoor
set_option maxRecDepth 100000
open Go.RowKit
theorem zdh (n e:Int) (h0 : -1000000000000<=n) (h1:n<=1000000000000) (w:World) (hg:Glob w) :
  Calls Tryz.prog 114 #[.int .i64 n,.int .i64 e] w fun r w'=>r = .returned (.tuple #[.string ⟨(oneV (n,e)).1.toArray⟩,.int .i64 (oneV (n,e)).2])/\Ext w w':=by
 have HI:=Za (zce n h0 h1 w hg)
 have hv:oneV (n,e)=(itoaZ n,e):=rfl
 rw [hv]
 obtain ⟨t,ht⟩:∃t,itoaZ n=t:=⟨_,rfl⟩
 rw [ht] at HI ⊢
 clear ht hv
 go_enter Tryz.func114,Tryz.ntmps114
 go_wp2_with (go_at_call 36;((with_reducible refine HI.out.mono ?_);rintro e1 w1 ⟨rfl,aa⟩))
 go_ret2
 exact ⟨rfl,aa⟩
end Go.Proofs.YtbjgpbojjhldaaaGreatDoor
/- The contracts of Check of gauge,and of its reference. -/
namespace Go.Proofs.YtbjgpbojjhldaaaGreatDoor
set_option maxRecDepth 100000
open Go.RowKit
theorem zab (n lo hi:Int) (w:World) :
  Calls Tryz.prog 45 #[.int .i64 n,.int .i64 lo,.int .i64 hi] w fun e w'=>e = .returned (.bool (ginR n lo hi))/\w=w':=by
 by_cases h:lo<=n
 ·go_enter Tryz.func45,Tryz.ntmps45
  go_wp2
  go_ret
  exact ⟨by simp [ginR,h],rfl⟩
 ·go_enter Tryz.func45,Tryz.ntmps45
  go_wp2
  go_ret
  exact ⟨by rw [zq1 (by omega)];rfl,rfl⟩
theorem zam (a b c d:Int) (w:World) :
  Calls Tryz.prog 44 #[.agg #[.int .i64 a,.int .i64 b,.int .i64 c,.int .i64 d]] w fun e w'=>e = .returned (.int .i64 (gerr a b c d))/\Ext w w':=by
 have i0:∀w,(Instr.index 126 (.agg #[.int .i64 a,.int .i64 b,.int .i64 c,.int .i64 d]) (.int .i64 0)).run Tryz.prog w = .ok (.int .i64 a) w:=fun _=>by kernel_rfl
 have i1:∀w,(Instr.index 126 (.agg #[.int .i64 a,.int .i64 b,.int .i64 c,.int .i64 d]) (.int .i64 1)).run Tryz.prog w = .ok (.int .i64 b) w:=fun _=>by kernel_rfl
 have i2:∀w,(Instr.index 126 (.agg #[.int .i64 a,.int .i64 b,.int .i64 c,.int .i64 d]) (.int .i64 2)).run Tryz.prog w = .ok (.int .i64 c) w:=fun _=>by kernel_rfl
 have i3:∀w,(Instr.index 126 (.agg #[.int .i64 a,.int .i64 b,.int .i64 c,.int .i64 d]) (.int .i64 3)).run Tryz.prog w = .ok (.int .i64 d) w:=fun _=>by kernel_rfl
 cases ha:ginR a 1 10000
 ·go_enter Tryz.func44,Tryz.ntmps44
  go_wp2_with fail
  refine wp_loop_rounds 1 ?_
  rw [rounds_succ]
  go_wp2_with (go_at_call 45;refine (zab _ _ _ _).mono ?_;rintro e w1 ⟨rfl,rfl⟩)
  go_ret
  exact ⟨by simp [gerr,gok,ha],(Ze _).alloc _⟩
 cases hb:ginR b 1 10000
 ·go_enter Tryz.func44,Tryz.ntmps44
  go_wp2_with fail
  refine wp_loop_rounds 2 ?_
  rw [rounds_succ]
  go_wp2_with (go_at_call 45;refine (zab _ _ _ _).mono ?_;rintro e w1 ⟨rfl,rfl⟩)
  rw [rounds_succ]
  go_wp2_with (go_at_call 45;refine (zab _ _ _ _).mono ?_;rintro e w1 ⟨rfl,rfl⟩)
  go_ret
  exact ⟨by simp [gerr,gok,ha,hb],(Ze _).alloc _⟩
 cases hc:ginR c 1 10000
 ·go_enter Tryz.func44,Tryz.ntmps44
  go_wp2_with fail
  refine wp_loop_rounds 3 ?_
  rw [rounds_succ]
  go_wp2_with (go_at_call 45;refine (zab _ _ _ _).mono ?_;rintro e w1 ⟨rfl,rfl⟩)
  rw [rounds_succ]
  go_wp2_with (go_at_call 45;refine (zab _ _ _ _).mono ?_;rintro e w1 ⟨rfl,rfl⟩)
  rw [rounds_succ]
  go_wp2_with (go_at_call 45;refine (zab _ _ _ _).mono ?_;rintro e w1 ⟨rfl,rfl⟩)
  go_ret
  exact ⟨by simp [gerr,gok,ha,hb,hc],(Ze _).alloc _⟩
 cases hd:ginR d 1 10000
 ·go_enter Tryz.func44,Tryz.ntmps44
  go_wp2_with fail
  refine wp_loop_rounds 4 ?_
  rw [rounds_succ]
  go_wp2_with (go_at_call 45;refine (zab _ _ _ _).mono ?_;rintro e w1 ⟨rfl,rfl⟩)
  rw [rounds_succ]
  go_wp2_with (go_at_call 45;refine (zab _ _ _ _).mono ?_;rintro e w1 ⟨rfl,rfl⟩)
  rw [rounds_succ]
  go_wp2_with (go_at_call 45;refine (zab _ _ _ _).mono ?_;rintro e w1 ⟨rfl,rfl⟩)
  rw [rounds_succ]
  go_wp2_with (go_at_call 45;refine (zab _ _ _ _).mono ?_;rintro e w1 ⟨rfl,rfl⟩)
  go_ret
  exact ⟨by simp [gerr,gok,ha,hb,hc,hd],(Ze _).alloc _⟩
 ·go_enter Tryz.func44,Tryz.ntmps44
  go_wp2_with fail
  refine wp_loop_rounds 5 ?_
  rw [rounds_succ]
  go_wp2_with (go_at_call 45;refine (zab _ _ _ _).mono ?_;rintro e w1 ⟨rfl,rfl⟩)
  rw [rounds_succ]
  go_wp2_with (go_at_call 45;refine (zab _ _ _ _).mono ?_;rintro e w1 ⟨rfl,rfl⟩)
  rw [rounds_succ]
  go_wp2_with (go_at_call 45;refine (zab _ _ _ _).mono ?_;rintro e w1 ⟨rfl,rfl⟩)
  rw [rounds_succ]
  go_wp2_with (go_at_call 45;refine (zab _ _ _ _).mono ?_;rintro e w1 ⟨rfl,rfl⟩)
  rw [rounds_succ]
  go_wp2_with (go_at_call 45;refine (zab _ _ _ _).mono ?_;rintro e w1 ⟨rfl,rfl⟩)
  go_ret
  exact ⟨by simp [gerr,gok,ha,hb,hc,hd],(Ze _).alloc _⟩
end Go.Proofs.YtbjgpbojjhldaaaGreatDoor
/- gauge: Stitches,Rows and Fit. -/
namespace Go.Proofs.YtbjgpbojjhldaaaGreatDoor
set_option maxRecDepth 100000
open Go.RowKit
theorem zjX (num den n:Int) (w:World) (h0:0<=n) (h1:n<=1000000) (h2:0<=num) (h3:num<=100000000) (h4:1<=den) (h5:den<=100000000) :
  Calls Tryz.prog 78 #[.agg #[.int .i64 num,.int .i64 den],.int .i64 n] w fun e w'=>e = .returned (.int .i64 (near (n*num) den))/\Ext w w':=by
 have hp:0<=2*n*num/\2*n*num<=2000000*100000000:=zbd (by omega) (by omega) h2 h3
 obtain ⟨hp0,hp1⟩:=hp
 go_enter Tryz.func78,Tryz.ntmps78
 go_wp2
 go_ret
 exact ⟨by simp [near,Int.mul_assoc],(Ze _).alloc _⟩
theorem zis (a b c d num den n most result:Int) (w:World) (hm:most<=1000000) (hq:gok a b c d=true->0<=num/\num<=100000000/\1<=den/\den<=100000000) :
  Calls Tryz.prog 43 #[.agg #[.int .i64 a,.int .i64 b,.int .i64 c,.int .i64 d],.agg #[.int .i64 num,.int .i64 den],.int .i64 n,.int .i64 most,.int .i64 result] w
   fun e w'=>e = .returned (.tuple #[.int .i64 (scaleG (gok a b c d) n most (near (n*num) den) result).1,.int .i64 (scaleG (gok a b c d) n most (near (n*num) den) result).2])/\Ext w w':=by
 cases hg:gok a b c d
 ·have he:gerr a b c d=8:=by simp [gerr,hg]
  clear hq
  go_enter Tryz.func43,Tryz.ntmps43
  go_wp2_with (go_at_call 44;refine (zam _ _ _ _ _).mono ?_;rintro e w1 ⟨rfl,hb1⟩;obtain ⟨hc1,hf1,hz1⟩:=hb1.facts)
  go_ret2
  exact ⟨by rw [ziS];rfl,by repeat (first | exact Ze _ | refine ZD ?_ _ | refine Zm ?_ (by assumption))⟩
 ·have he:gerr a b c d=0:=by simp [gerr,hg]
  obtain ⟨q0,q1,q2,q3⟩:=hq hg
  clear hq
  cases hn:ginR n 0 most
  ·go_enter Tryz.func43,Tryz.ntmps43
   go_wp2_with (first | (go_at_call 44;refine (zam _ _ _ _ _).mono ?_;rintro e w1 ⟨rfl,hb1⟩;obtain ⟨hc1,hf1,hz1⟩:=hb1.facts) | (go_at_call 45;refine (zab _ _ _ _).mono ?_;rintro e w1 ⟨rfl,rfl⟩))
   go_ret2
   exact ⟨by rw [ziR hn];rfl,by repeat (first | exact Ze _ | refine ZD ?_ _ | refine Zm ?_ (by assumption))⟩
  ·obtain ⟨n0,n1⟩:=zbx hn
   by_cases hr:result<near (n*num) den
   ·go_enter Tryz.func43,Tryz.ntmps43
    go_wp2_with (first | (go_at_call 44;refine (zam _ _ _ _ _).mono ?_;rintro e w1 ⟨rfl,hb1⟩;obtain ⟨hc1,hf1,hz1⟩:=hb1.facts) | (go_at_call 45;refine (zab _ _ _ _).mono ?_;rintro e w1 ⟨rfl,rfl⟩) | (go_at_call 78;refine (zjX _ _ _ _ n0 (by omega) q0 q1 q2 q3).mono ?_;rintro e w2 ⟨rfl,aa⟩))
    go_ret2
    exact ⟨by rw [zfH hn (by omega)];rfl,by repeat (first | exact Ze _ | refine ZD ?_ _ | refine Zm ?_ (by assumption))⟩
   ·go_enter Tryz.func43,Tryz.ntmps43
    go_wp2_with (first | (go_at_call 44;refine (zam _ _ _ _ _).mono ?_;rintro e w1 ⟨rfl,hb1⟩;obtain ⟨hc1,hf1,hz1⟩:=hb1.facts) | (go_at_call 45;refine (zab _ _ _ _).mono ?_;rintro e w1 ⟨rfl,rfl⟩) | (go_at_call 78;refine (zjX _ _ _ _ n0 (by omega) q0 q1 q2 q3).mono ?_;rintro e w2 ⟨rfl,aa⟩))
    go_ret2
    exact ⟨by rw [zk5 hn (by omega)];rfl,by repeat (first | exact Ze _ | refine ZD ?_ _ | refine Zm ?_ (by assumption))⟩
theorem zZ9 {p:Prop} (h:p:=by
 go_wp2_with (go_at_call 43;refine (zis _ _ _ _ _ _ _ _ _ _ (by omega) HQ.out).mono ?_;rintro e w1 ⟨rfl,hb1⟩;obtain ⟨hc1,hf1,hz1⟩:=hb1.facts)
 go_ret2
 exact ⟨rfl,by repeat (first | exact Ze _ | refine ZD ?_ _ | refine Zm ?_ (by assumption))⟩):p:=h
theorem zeF (a b c d n:Int) (w:World) :
  Calls Tryz.prog 18 #[.agg #[.int .i64 a,.int .i64 b,.int .i64 c,.int .i64 d],.int .i64 n] w
   fun e w'=>e = .returned (.tuple #[.int .i64 (scaleG (gok a b c d) n 1000000 (near (n*a) b) 1000000).1,.int .i64 (scaleG (gok a b c d) n 1000000 (near (n*a) b) 1000000).2])/\Ext w w':=by
 have hq:gok a b c d=true->0<=a/\a<=100000000/\1<=b/\b<=100000000:=fun h=>by have:=zio h;omega
 have HQ:=Za hq
 clear hq
 go_enter Tryz.func18,Tryz.ntmps18
 exact zZ9
theorem ziq (a b c d n:Int) (w:World) :
  Calls Tryz.prog 19 #[.agg #[.int .i64 a,.int .i64 b,.int .i64 c,.int .i64 d],.int .i64 n] w
   fun e w'=>e = .returned (.tuple #[.int .i64 (scaleG (gok a b c d) n 1000000 (near (n*c) d) 1000000).1,.int .i64 (scaleG (gok a b c d) n 1000000 (near (n*c) d) 1000000).2])/\Ext w w':=by
 have hq:gok a b c d=true->0<=c/\c<=100000000/\1<=d/\d<=100000000:=fun h=>by have:=zio h;omega
 have HQ:=Za hq
 clear hq
 go_enter Tryz.func19,Tryz.ntmps19
 exact zZ9
theorem zmx (a b c d width every extra:Int) (w:World) :
  Calls Tryz.prog 20 #[.agg #[.int .i64 a,.int .i64 b,.int .i64 c,.int .i64 d],.int .i64 width,.int .i64 every,.int .i64 extra] w
   fun e w'=>e = .returned (.tuple #[.int .i64 (fitG (gok a b c d) a b width every extra).1,.int .i64 (fitG (gok a b c d) a b width every extra).2])/\Ext w w':=by
 cases hg:gok a b c d
 ·have he:gerr a b c d=8:=by simp [gerr,hg]
  go_enter Tryz.func20,Tryz.ntmps20
  go_wp2_with (go_at_call 44;refine (zam _ _ _ _ _).mono ?_;rintro e w1 ⟨rfl,hb1⟩;obtain ⟨hc1,hf1,hz1⟩:=hb1.facts)
  go_ret2
  exact ⟨rfl,by repeat (first | exact Ze _ | refine ZD ?_ _ | refine ZR ?_ | refine Ext.drewN ?_ _ | refine Zm ?_ (by assumption))⟩
 have he:gerr a b c d=0:=by simp [gerr,hg]
 cases h1:ginR width 0 1000000
 ·have HF:=Za (zeC a b width every extra (by rw [h1];rfl))
  go_enter Tryz.func20,Tryz.ntmps20
  go_wp2_with (first | (go_at_call 44;refine (zam _ _ _ _ _).mono ?_;rintro e w1 ⟨rfl,hb1⟩;obtain ⟨hc1,hf1,hz1⟩:=hb1.facts) | (go_at_call 45;refine (zab _ _ _ _).mono ?_;rintro e w2 ⟨rfl,rfl⟩))
  go_ret2
  exact ⟨by rw [HF.out];rfl,by repeat (first | exact Ze _ | refine ZD ?_ _ | refine ZR ?_ | refine Ext.drewN ?_ _ | refine Zm ?_ (by assumption))⟩
 cases h2:ginR every 1 1000
 ·have HF:=Za (zeC a b width every extra (by rw [h1,h2];rfl))
  go_enter Tryz.func20,Tryz.ntmps20
  go_wp2_with (first | (go_at_call 44;refine (zam _ _ _ _ _).mono ?_;rintro e w1 ⟨rfl,hb1⟩;obtain ⟨hc1,hf1,hz1⟩:=hb1.facts) | (go_at_call 45;refine (zab _ _ _ _).mono ?_;rintro e w2 ⟨rfl,rfl⟩))
  go_ret2
  exact ⟨by rw [HF.out];rfl,by repeat (first | exact Ze _ | refine ZD ?_ _ | refine ZR ?_ | refine Ext.drewN ?_ _ | refine Zm ?_ (by assumption))⟩
 cases h3:ginR extra 0 1000
 ·have HF:=Za (zeC a b width every extra (by rw [h1,h2,h3];rfl))
  go_enter Tryz.func20,Tryz.ntmps20
  go_wp2_with (first | (go_at_call 44;refine (zam _ _ _ _ _).mono ?_;rintro e w1 ⟨rfl,hb1⟩;obtain ⟨hc1,hf1,hz1⟩:=hb1.facts) | (go_at_call 45;refine (zab _ _ _ _).mono ?_;rintro e w2 ⟨rfl,rfl⟩))
  go_ret2
  exact ⟨by rw [HF.out];rfl,by repeat (first | exact Ze _ | refine ZD ?_ _ | refine ZR ?_ | refine Ext.drewN ?_ _ | refine Zm ?_ (by assumption))⟩
 have HR:=Za (show (ginR width 0 1000000 && ginR every 1 1000 && ginR extra 0 1000)=true by rw [h1,h2,h3];rfl)
 obtain ⟨⟨ga0,ga1⟩,⟨gb0,gb1⟩, -⟩:=zio hg
 obtain ⟨x0,x1⟩:=zbx h1
 obtain ⟨y0,y1⟩:=zbx h2
 obtain ⟨z0,z1⟩:=zbx h3
 obtain ⟨p0,p1⟩:=zbd x0 x1 (show 0<=a by omega) ga1
 obtain ⟨r0,r1⟩:=zbd z0 z1 (show 0<=b by omega) gb1
 have s0:1<=every*b:=Int.mul_pos (by omega) (by omega)
 have s1:every*b<=1000*10000:=Int.mul_le_mul y1 gb1 (by omega) (by omega)
 by_cases hr:0<width*a-extra*b
 ·have q0:0<=(2*(width*a-extra*b)+every*b-1) / (2*(every*b)):=Int.ediv_nonneg (by omega) (by omega)
  have q1:(2*(width*a-extra*b)+every*b-1) / (2*(every*b))<=2*(width*a-extra*b)+every*b-1:=Int.ediv_le_self _ (by omega)
  obtain ⟨t0,t1⟩:=zbd (show 0<=every by omega) y1 q0 (show (2*(width*a-extra*b)+every*b-1) / (2*(every*b))<=30000000000 by omega)
  by_cases hm:1000000<extra+every*((2*(width*a-extra*b)+every*b-1) / (2*(every*b)))
  ·have HF:=Za (zij HR.out (by rw [fitN,if_pos hr];exact hm))
   go_enter Tryz.func20,Tryz.ntmps20
   go_wp2_with (first | (go_at_call 44;refine (zam _ _ _ _ _).mono ?_;rintro e w1 ⟨rfl,hb1⟩;obtain ⟨hc1,hf1,hz1⟩:=hb1.facts) | (go_at_call 45;refine (zab _ _ _ _).mono ?_;rintro e w2 ⟨rfl,rfl⟩))
   go_ret2
   exact ⟨by rw [HF.out];rfl,by repeat (first | exact Ze _ | refine ZD ?_ _ | refine ZR ?_ | refine Ext.drewN ?_ _ | refine Zm ?_ (by assumption))⟩
  ·have HF:=Za (zjH HR.out (by rw [fitN,if_pos hr];exact hm))
   have HN:=Za (show fitN a b width every extra=_ by rw [fitN,if_pos hr])
   go_enter Tryz.func20,Tryz.ntmps20
   go_wp2_with (first | (go_at_call 44;refine (zam _ _ _ _ _).mono ?_;rintro e w1 ⟨rfl,hb1⟩;obtain ⟨hc1,hf1,hz1⟩:=hb1.facts) | (go_at_call 45;refine (zab _ _ _ _).mono ?_;rintro e w2 ⟨rfl,rfl⟩))
   go_ret2
   exact ⟨by rw [HF.out,HN.out];rfl,by repeat (first | exact Ze _ | refine ZD ?_ _ | refine ZR ?_ | refine Ext.drewN ?_ _ | refine Zm ?_ (by assumption))⟩
 ·have HF:=Za (zjH HR.out (by rw [fitN,if_neg hr];omega))
  have HN:=Za (show fitN a b width every extra=_ by rw [fitN,if_neg hr])
  go_enter Tryz.func20,Tryz.ntmps20
  go_wp2_with (first | (go_at_call 44;refine (zam _ _ _ _ _).mono ?_;rintro e w1 ⟨rfl,hb1⟩;obtain ⟨hc1,hf1,hz1⟩:=hb1.facts) | (go_at_call 45;refine (zab _ _ _ _).mono ?_;rintro e w2 ⟨rfl,rfl⟩))
  go_ret2
  exact ⟨by rw [HF.out,HN.out];rfl,by repeat (first | exact Ze _ | refine ZD ?_ _ | refine ZR ?_ | refine Ext.drewN ?_ _ | refine Zm ?_ (by assumption))⟩
end Go.Proofs.YtbjgpbojjhldaaaGreatDoor
/- console.measure. -/
namespace Go.Proofs.YtbjgpbojjhldaaaGreatDoor
set_option maxRecDepth 100000
open Go.RowKit
def CmdR (w:World) (S:Nat) (r:Cs×Ans) (e:Ending) (w':World):Prop:=e = .returned (.tuple #[.string ⟨r.2.1.toArray⟩,.int .i64 r.2.2])/\StAt w' S r.1/\But (some S) w w'
theorem zac {w w':World} {S:Nat} {st:Cs} {a:Ans} {e:Ending} (hs:StAt w S st) (hb:Ext w w') (he:e = .returned (.tuple #[.string ⟨a.1.toArray⟩,.int .i64 a.2])):CmdR w S (st,a) e w' :=
 ⟨he,hs.ext hb,But.of_ext hb _⟩
theorem zmv (w:World) (u0 u1 u2 u3:Value) (t:TypeId):(w.alloc (.cells #[u0,u1,u2,u3] t)).cell? ⟨w.heap.size,0,none⟩=some u0/\(w.alloc (.cells #[u0,u1,u2,u3] t)).cell? ⟨w.heap.size,1,none⟩=some u1/\(w.alloc (.cells #[u0,u1,u2,u3] t)).cell? ⟨w.heap.size,2,none⟩=some u2/\(w.alloc (.cells #[u0,u1,u2,u3] t)).cell? ⟨w.heap.size,3,none⟩=some u3:=by
 have h:(w.alloc (.cells #[u0,u1,u2,u3] t)).heap[w.heap.size]?=some (.cells #[u0,u1,u2,u3] t):=heap_alloc_new w _
 refine ⟨?_,?_,?_,?_⟩ <;> rw [cell_of_row _ w.heap.size _ _ t (0,0) h] <;> rfl
theorem zmC {w w':World} {S:Nat} (a b c d:Int) (t:TypeId) (ht:t≠5) (hS:S<w.heap.size) (hb:Ext (w.alloc (.cells #[.int .i64 a,.int .i64 b,.int .i64 c,.int .i64 d] t)) w'):HoldG w' S (some ⟨w.heap.size,0,none⟩) (some (a,b,c,d)):=by
 obtain ⟨h0,h1,h2,h3⟩:=zmv w (.int .i64 a) (.int .i64 b) (.int .i64 c) (.int .i64 d) t
 have hl:w.heap.size<(w.alloc (.cells #[.int .i64 a,.int .i64 b,.int .i64 c,.int .i64 d] t)).heap.size:=by simp
 exact ⟨w.heap.size,rfl,by omega,Zi hl (Zt hb),(Zl (p:=⟨w.heap.size,0,none⟩) hb hl).trans h0,(Zl (p:=⟨w.heap.size,1,none⟩) hb hl).trans h1,(Zl (p:=⟨w.heap.size,2,none⟩) hb hl).trans h2,(Zl (p:=⟨w.heap.size,3,none⟩) hb hl).trans h3,(NoB.new w _ t ht).ext hl hb⟩
theorem zfa (S c:Nat) (A:Option Addr) (st:Cs) (l:List Int) (w:World) (hs:StAt w S st) (hl:Ints w A 4 l) :
  Calls Tryz.prog 68 #[.pointer (some ⟨S,0,none⟩),.string ⟨kGauge.toArray⟩,.slice A 4 c] w (CmdR w S (measV st kGauge l)):=by
 have HS:=Za hs
 obtain ⟨b,off,rfl,hb,hc⟩:=hl.2 (by omega)
 have c0:=hc 0 (by omega)
 have c1:=hc 1 (by omega)
 have c2:=hc 2 (by omega)
 have c3:=hc 3 (by omega)
 simp only [Nat.add_zero] at c0
 have hv:measV st kGauge l=if gerr (l.getD 0 0) (l.getD 1 0) (l.getD 2 0) (l.getD 3 0)≠0 then (st,([],gerr (l.getD 0 0) (l.getD 1 0) (l.getD 2 0) (l.getD 3 0))) else (⟨some (l.getD 0 0,l.getD 1 0,l.getD 2 0,l.getD 3 0),st.c⟩,(okB,0)):=by rw [measV,if_pos rfl]
 obtain ⟨m,hm⟩:∃m,measV st kGauge l=m:=⟨_,rfl⟩
 rw [hm] at hv ⊢
 obtain ⟨x0,hx0⟩:∃x,l.getD 0 0=x:=⟨_,rfl⟩
 obtain ⟨x1,hx1⟩:∃x,l.getD 1 0=x:=⟨_,rfl⟩
 obtain ⟨x2,hx2⟩:∃x,l.getD 2 0=x:=⟨_,rfl⟩
 obtain ⟨x3,hx3⟩:∃x,l.getD 3 0=x:=⟨_,rfl⟩
 rw [hx0,hx1,hx2,hx3] at hv
 rw [hx0] at c0
 rw [hx1] at c1
 rw [hx2] at c2
 rw [hx3] at c3
 have HV:=Za hv
 have HG:=Za (fun w'=>zam x0 x1 x2 x3 w')
 obtain ⟨e,he⟩:∃e,gerr x0 x1 x2 x3=e:=⟨_,rfl⟩
 rw [he] at HG HV
 obtain ⟨hlt,⟨f0,f1⟩,⟨p,hp, -⟩, -⟩:=id hs
 clear hm he hs hl hc hv hx0 hx1 hx2 hx3
 by_cases h0:e=0
 ·subst h0
  have ab:=Za (HV.out.trans (if_neg (fun h=>h rfl)))
  go_enter Tryz.func68,Tryz.ntmps68
  go_wp2_with fail
  go_region_held3 (fun w'=>w'.cell? ⟨b,off,none⟩=some (.int .i64 x0)/\w'.cell? ⟨b,off+1,none⟩=some (.int .i64 x1)/\w'.cell? ⟨b,off+2,none⟩=some (.int .i64 x2)/\w'.cell? ⟨b,off+3,none⟩=some (.int .i64 x3)) (go_keep) (fail)
  go_wp2_with (first
   | (go_at_call 44;((with_reducible refine (HG.out _).mono ?_);rintro e1 w1 ⟨rfl,aa⟩;have HH:=Za (zmC x0 x1 x2 x3 36 (by decide) HS.out.lt (Zm (ZR (Ze _)) aa));have HX:=Za (((Ze w).alloc _).drew.trans aa);have ac:S<w1.heap.size:=Zi hlt (Zt HX.out);have fz1:=(Below.frozen (p:=⟨S,0,none⟩) HX.out hlt).trans f0;have hp1:=(Zl (p:=⟨S,0,none⟩) HX.out hlt).trans hp;clear aa)))
  go_ret2
  rw [ab.out]
  exact ⟨rfl,(HS.out.ext HX.out).setG HH.out,(But.of_ext HX.out _).own rfl _⟩
 ·have ab:=Za (HV.out.trans (if_pos h0))
  have h1:(e==0)=false:=by simpa using h0
  go_enter Tryz.func68,Tryz.ntmps68
  go_wp2_with fail
  go_region_held3 (fun w'=>w'.cell? ⟨b,off,none⟩=some (.int .i64 x0)/\w'.cell? ⟨b,off+1,none⟩=some (.int .i64 x1)/\w'.cell? ⟨b,off+2,none⟩=some (.int .i64 x2)/\w'.cell? ⟨b,off+3,none⟩=some (.int .i64 x3)) (go_keep) (fail)
  go_wp2_with (first
   | (go_at_call 44;((with_reducible refine (HG.out _).mono ?_);rintro e1 w1 ⟨rfl,aa⟩;have HX:=Za (((Ze w).alloc _).drew.trans aa);have ac:S<w1.heap.size:=Zi hlt (Zt HX.out);have fz1:=(Below.frozen (p:=⟨S,0,none⟩) HX.out hlt).trans f0;have hp1:=(Zl (p:=⟨S,0,none⟩) HX.out hlt).trans hp;clear aa)))
  go_ret2
  rw [ab.out]
  exact zac HS.out HX.out rfl
theorem zko {st:Cs} {word:List UInt8} {l:List Int} (h:word≠kGauge) (hg:st.g=none):measV st word l=(st,([],6)):=by
 rw [measV,if_neg h,hg]
theorem zdy {st:Cs} {word:List UInt8} {l:List Int} {a b c d:Int} (h:word≠kGauge) (hg:st.g=some (a,b,c,d)):measV st word l=(st,if word=kStitches then oneV (scaleG (gok a b c d) (l.getD 0 0) 1000000 (near (l.getD 0 0*a) b) 1000000)
   else if word=kRows then oneV (scaleG (gok a b c d) (l.getD 0 0) 1000000 (near (l.getD 0 0*c) d) 1000000)
   else oneV (fitG (gok a b c d) a b (l.getD 0 0) (l.getD 1 0) (l.getD 2 0))):=by
 rw [measV,if_neg h,hg]
theorem zbT (S n c k:Nat) (A:Option Addr) (st:Cs) (l:List Int) (w:World) (hs:StAt w S st) (hg:st.g=none) (hk:k=1∨k=2∨k=3) :
  Calls Tryz.prog 68 #[.pointer (some ⟨S,0,none⟩),.string ⟨(if k=1 then kStitches else if k=2 then kRows else kFit).toArray⟩,.slice A n c] w (CmdR w S (measV st (if k=1 then kStitches else if k=2 then kRows else kFit) l)):=by
 have HS:=Za hs
 have HV:=Za (show ∀word,word≠kGauge->measV st word l=(st,([],6)) from fun word h=>zko h hg)
 obtain ⟨hlt,⟨f0,f1⟩,⟨p,hp,hh⟩, -⟩:=id hs
 rw [hg] at hh
 obtain rfl:p=none:=hh
 clear hs hg
 rcases hk with rfl | rfl | rfl
 ·have aa:=Za (HV.out kStitches (by decide))
  go_enter Tryz.func68,Tryz.ntmps68
  go_wp2
  go_ret2
  rw [aa.out]
  exact zac HS.out (Ze w) rfl
 ·have aa:=Za (HV.out kRows (by decide))
  go_enter Tryz.func68,Tryz.ntmps68
  go_wp2
  go_ret2
  rw [aa.out]
  exact zac HS.out (Ze w) rfl
 ·have aa:=Za (HV.out kFit (by decide))
  go_enter Tryz.func68,Tryz.ntmps68
  go_wp2
  go_ret2
  rw [aa.out]
  exact zac HS.out (Ze w) rfl
theorem zjr (S n c:Nat) (A:Option Addr) (st:Cs) (l:List Int) (ga gb gc gd:Int) (w:World) (hg:Glob w) (hs:StAt w S st) (hst:st.g=some (ga,gb,gc,gd)) (hl:Ints w A n l) (hn:1=n) :
  Calls Tryz.prog 68 #[.pointer (some ⟨S,0,none⟩),.string ⟨kStitches.toArray⟩,.slice A n c] w (CmdR w S (measV st kStitches l)):=by
 subst hn
 have HS:=Za hs
 have HGL:=Za hg
 obtain ⟨b,off,rfl,hb,hc⟩:=hl.2 (by omega)
 have c0:=hc 0 (by omega)
 simp only [Nat.add_zero] at c0
 have HV:=Za (show measV st kStitches l=(st,oneV (scaleG (gok ga gb gc gd) (l.getD 0 0) 1000000 (near (l.getD 0 0*ga) gb) 1000000)) by rw [zdy (by decide) hst];rw [if_pos rfl])
 obtain ⟨x0,hx0⟩:∃x,l.getD 0 0=x:=⟨_,rfl⟩
 rw [hx0] at c0 HV
 clear hx0
 have HB:=Za (zbZ ga gb gc gd x0)
 have HF:=Za (fun w'=>zeF ga gb gc gd x0 w')
 obtain ⟨r,hr⟩:∃r,scaleG (gok ga gb gc gd) x0 1000000 (near (x0*ga) gb) 1000000=r:=⟨_,rfl⟩
 rw [hr] at HV HB HF
 obtain ⟨r1,r2⟩:=r
 have HO:=Za (fun w' (h:Ext w w')=>zdh r1 r2 (by have:=HB.out;simp only at this;omega) (by have:=HB.out;simp only at this;omega) w' (HGL.out.ext h))
 have he:oneV (r1,r2)=((oneV (r1,r2)).1,(oneV (r1,r2)).2):=rfl
 obtain ⟨o1,aa⟩:∃o,(oneV (r1,r2)).1=o:=⟨_,rfl⟩
 obtain ⟨o2,ab⟩:∃o,(oneV (r1,r2)).2=o:=⟨_,rfl⟩
 rw [aa,ab] at he HO
 rw [he] at HV
 obtain ⟨hlt,⟨f0,f1⟩,⟨p,hp,hh⟩, -⟩:=id hs
 rw [hst] at hh
 obtain ⟨G,rfl,hGS,hGl,g0,g1,g2,g3, -⟩:=hh
 clear hs hst hl hc hr he aa ab hg
 go_enter Tryz.func68,Tryz.ntmps68
 go_wp2_with fail
 go_region_law (first
  | (go_simp;(go_at_call 18;((with_reducible refine (HF.out _).mono ?_);rintro e5 w5 ⟨rfl,hq5⟩;have ac:Ext w w5:=(zx);clear hq5)))
  | (go_simp;(go_at_call 114;((with_reducible refine (HO.out _ (Zm ac zx)).mono ?_);rintro e6 w6 ⟨rfl,hq6⟩;have hx6:Ext w w6:=(Zm ac zx);clear hq6))))
 all_goals
  go_wp2_with fail
  go_ret2
  rw [HV.out]
  exact zac HS.out zx rfl
theorem zjq (S n c:Nat) (A:Option Addr) (st:Cs) (l:List Int) (ga gb gc gd:Int) (w:World) (hg:Glob w) (hs:StAt w S st) (hst:st.g=some (ga,gb,gc,gd)) (hl:Ints w A n l) (hn:1=n) :
  Calls Tryz.prog 68 #[.pointer (some ⟨S,0,none⟩),.string ⟨kRows.toArray⟩,.slice A n c] w (CmdR w S (measV st kRows l)):=by
 subst hn
 have HS:=Za hs
 have HGL:=Za hg
 obtain ⟨b,off,rfl,hb,hc⟩:=hl.2 (by omega)
 have c0:=hc 0 (by omega)
 simp only [Nat.add_zero] at c0
 have HV:=Za (show measV st kRows l=(st,oneV (scaleG (gok ga gb gc gd) (l.getD 0 0) 1000000 (near (l.getD 0 0*gc) gd) 1000000)) by rw [zdy (by decide) hst];rw [if_neg (by decide),if_pos rfl])
 obtain ⟨x0,hx0⟩:∃x,l.getD 0 0=x:=⟨_,rfl⟩
 rw [hx0] at c0 HV
 clear hx0
 have HB:=Za (zgW ga gb gc gd x0)
 have HF:=Za (fun w'=>ziq ga gb gc gd x0 w')
 obtain ⟨r,hr⟩:∃r,scaleG (gok ga gb gc gd) x0 1000000 (near (x0*gc) gd) 1000000=r:=⟨_,rfl⟩
 rw [hr] at HV HB HF
 obtain ⟨r1,r2⟩:=r
 have HO:=Za (fun w' (h:Ext w w')=>zdh r1 r2 (by have:=HB.out;simp only at this;omega) (by have:=HB.out;simp only at this;omega) w' (HGL.out.ext h))
 have he:oneV (r1,r2)=((oneV (r1,r2)).1,(oneV (r1,r2)).2):=rfl
 obtain ⟨o1,aa⟩:∃o,(oneV (r1,r2)).1=o:=⟨_,rfl⟩
 obtain ⟨o2,ab⟩:∃o,(oneV (r1,r2)).2=o:=⟨_,rfl⟩
 rw [aa,ab] at he HO
 rw [he] at HV
 obtain ⟨hlt,⟨f0,f1⟩,⟨p,hp,hh⟩, -⟩:=id hs
 rw [hst] at hh
 obtain ⟨G,rfl,hGS,hGl,g0,g1,g2,g3, -⟩:=hh
 clear hs hst hl hc hr he aa ab hg
 go_enter Tryz.func68,Tryz.ntmps68
 go_wp2_with fail
 go_region_law (first
  | (go_simp;(go_at_call 19;((with_reducible refine (HF.out _).mono ?_);rintro e5 w5 ⟨rfl,hq5⟩;have ac:Ext w w5:=(zx);clear hq5)))
  | (go_simp;(go_at_call 114;((with_reducible refine (HO.out _ (Zm ac zx)).mono ?_);rintro e6 w6 ⟨rfl,hq6⟩;have hx6:Ext w w6:=(Zm ac zx);clear hq6))))
 all_goals
  go_wp2_with fail
  go_ret2
  rw [HV.out]
  exact zac HS.out zx rfl
theorem zq3 {w w':World} {b S G:Nat} {o0 o1 o2:Nat} {v0 v1 v2 v3 v4 v5 v6 v7:Value} (hx:Ext w w') (hb:b<w.heap.size) (hS:S<w.heap.size) (hG:G<w.heap.size)
  (c0:w.cell? ⟨b,o0,none⟩=some v0) (c1:w.cell? ⟨b,o1,none⟩=some v1) (c2:w.cell? ⟨b,o2,none⟩=some v2) (c3:w.cell? ⟨S,0,none⟩=some v3)
  (c4:w.cell? ⟨G,0,none⟩=some v4) (c5:w.cell? ⟨G,1,none⟩=some v5) (c6:w.cell? ⟨G,2,none⟩=some v6) (c7:w.cell? ⟨G,3,none⟩=some v7) :
  w'.cell? ⟨b,o0,none⟩=some v0/\w'.cell? ⟨b,o1,none⟩=some v1/\w'.cell? ⟨b,o2,none⟩=some v2/\w'.cell? ⟨S,0,none⟩=some v3/\w'.cell? ⟨G,0,none⟩=some v4/\w'.cell? ⟨G,1,none⟩=some v5/\w'.cell? ⟨G,2,none⟩=some v6/\w'.cell? ⟨G,3,none⟩=some v7 :=
 ⟨(Zl (p:=⟨b,o0,none⟩) hx hb).trans c0,(Zl (p:=⟨b,o1,none⟩) hx hb).trans c1,(Zl (p:=⟨b,o2,none⟩) hx hb).trans c2,(Zl (p:=⟨S,0,none⟩) hx hS).trans c3,(Zl (p:=⟨G,0,none⟩) hx hG).trans c4,(Zl (p:=⟨G,1,none⟩) hx hG).trans c5,(Zl (p:=⟨G,2,none⟩) hx hG).trans c6,(Zl (p:=⟨G,3,none⟩) hx hG).trans c7⟩
theorem zjp (S n c:Nat) (A:Option Addr) (st:Cs) (l:List Int) (ga gb gc gd:Int) (w:World) (hg:Glob w) (hs:StAt w S st) (hst:st.g=some (ga,gb,gc,gd)) (hl:Ints w A n l) (hn:3=n) :
  Calls Tryz.prog 68 #[.pointer (some ⟨S,0,none⟩),.string ⟨kFit.toArray⟩,.slice A n c] w (CmdR w S (measV st kFit l)):=by
 subst hn
 have HS:=Za hs
 have HGL:=Za hg
 obtain ⟨b,off,rfl,hb,hc⟩:=hl.2 (by omega)
 have c0:=hc 0 (by omega)
 have c1:=hc 1 (by omega)
 have c2:=hc 2 (by omega)
 simp only [Nat.add_zero] at c0
 have HV:=Za (show measV st kFit l=(st,oneV (fitG (gok ga gb gc gd) ga gb (l.getD 0 0) (l.getD 1 0) (l.getD 2 0))) by rw [zdy (by decide) hst];rw [if_neg (by decide),if_neg (by decide)])
 obtain ⟨x0,hx0⟩:∃x,l.getD 0 0=x:=⟨_,rfl⟩
 rw [hx0] at c0 HV
 clear hx0
 obtain ⟨x1,hx1⟩:∃x,l.getD 1 0=x:=⟨_,rfl⟩
 rw [hx1] at c1 HV
 clear hx1
 obtain ⟨x2,hx2⟩:∃x,l.getD 2 0=x:=⟨_,rfl⟩
 rw [hx2] at c2 HV
 clear hx2
 have HB:=Za (zjI ga gb gc gd x0 x1 x2)
 have HF:=Za (fun w'=>zmx ga gb gc gd x0 x1 x2 w')
 obtain ⟨r,hr⟩:∃r,fitG (gok ga gb gc gd) ga gb x0 x1 x2=r:=⟨_,rfl⟩
 rw [hr] at HV HB HF
 obtain ⟨r1,r2⟩:=r
 have HO:=Za (fun w' (h:Ext w w')=>zdh r1 r2 (by have:=HB.out;simp only at this;omega) (by have:=HB.out;simp only at this;omega) w' (HGL.out.ext h))
 have he:oneV (r1,r2)=((oneV (r1,r2)).1,(oneV (r1,r2)).2):=rfl
 obtain ⟨o1,ac⟩:∃o,(oneV (r1,r2)).1=o:=⟨_,rfl⟩
 obtain ⟨o2,ad⟩:∃o,(oneV (r1,r2)).2=o:=⟨_,rfl⟩
 rw [ac,ad] at he HO
 rw [he] at HV
 obtain ⟨hlt,⟨f0,f1⟩,⟨p,hp,hh⟩, -⟩:=id hs
 rw [hst] at hh
 obtain ⟨G,rfl,hGS,ab,g0,g1,g2,g3, -⟩:=hh
 clear hs hst hl hc hr he ac ad hg
 go_enter Tryz.func68,Tryz.ntmps68
 go_wp2_with fail
 go_region_held3 (fun w'=>w'.cell? ⟨b,off,none⟩=some (.int .i64 x0)/\w'.cell? ⟨b,off+1,none⟩=some (.int .i64 x1)/\w'.cell? ⟨b,off+2,none⟩=some (.int .i64 x2)/\w'.cell? ⟨S,0,none⟩=some (.pointer (some ⟨G,0,none⟩))/\w'.cell? ⟨G,0,none⟩=some (.int .i64 ga)/\w'.cell? ⟨G,1,none⟩=some (.int .i64 gb)/\w'.cell? ⟨G,2,none⟩=some (.int .i64 gc)/\w'.cell? ⟨G,3,none⟩=some (.int .i64 gd)) (go_keep) (first
  | (go_simp;(go_at_call 20;((with_reducible refine (HF.out _).mono ?_);rintro e5 w5 ⟨rfl,hq5⟩;have aa:Ext w w5:=(zx);obtain ⟨k0,k1,k2,k3,k4,k5,k6,k7⟩:=zq3 aa hb hlt ab c0 c1 c2 hp g0 g1 g2 g3;clear hq5)))
  | (go_simp;(go_at_call 114;((with_reducible refine (HO.out _ (Zm aa zx)).mono ?_);rintro e6 w6 ⟨rfl,hq6⟩;have ae:Ext w w6:=(Zm aa zx);obtain ⟨m0,m1,m2,m3,m4,m5,m6,m7⟩:=zq3 ae hb hlt ab c0 c1 c2 hp g0 g1 g2 g3;clear hq6))))
 all_goals
  go_wp2_with fail
  go_ret2
  rw [HV.out]
  exact zac HS.out zx rfl
end Go.Proofs.YtbjgpbojjhldaaaGreatDoor
