/- The reference's lines of rows. -/
import Derived.Test.YtkneghkbgingdaaGreatDoorP39
import Derived.Test.YtkneghkbgingdaaGreatDoorP28
import Derived.Test.YtkneghkbgingdaaGreatDoorP27
namespace Go.Proofs.YtkneghkbgingdaaGreatDoor
set_option maxRecDepth 100000
set_option maxRecDepth 100000
open Go.RowKit Go.ChangeShapes Go.WideShapes Go.Joins
def CutR (s:List UInt8) (w:World) (e:Ending) (w':World):Prop:=∃(A:Option Addr) (n c:Nat) (ok:Bool),e = .returned (.tuple #[.slice A n c,.bool ok])∧Ext w w'∧((cutR s=none∧ok=false)∨∃ls,cutR s=some ls∧ok=true∧Vec shStr w' A n ls∧n≤c)
theorem CutR.no {s:List UInt8} {A:Option Addr} {n c:Nat} {w w':World} (h:cutR s=none) (hb:Ext w w'):CutR s w (.returned (.tuple #[.slice A n c,.bool false])) w':=⟨_,_,_,_,rfl,hb,.inl ⟨h,rfl⟩⟩
theorem CutR.yes {s:List UInt8} {A:Option Addr} {n c:Nat} {ls:List (List UInt8)} {w w':World} (h:cutR s=some ls) (hb:Ext w w') (hv:Vec shStr w' A n ls) (hc:n≤c):CutR s w (.returned (.tuple #[.slice A n c,.bool true])) w':=⟨_,_,_,_,rfl,hb,.inr ⟨ls,h,rfl,hv,hc⟩⟩
theorem zhx {s:List UInt8} (h:s≠[]):s.getLast?=some (s.getD (s.length-1) 0):=by
 have hl:=List.length_pos_iff.2 h
 rw [List.getLast?_eq_getElem?,List.getD_eq_getElem?_getD,List.getElem?_eq_getElem (by omega)]
 rfl
set_option maxHeartbeats 4000000 in
theorem zlc (s:List UInt8) (hs:s.length≤100000) (w:World):Calls Tryz.prog 47 #[.string ⟨s.toArray⟩] w (CutR s w):=by
 by_cases h0:s=[]
 ·subst h0
  have HN:=Lib.hid (show cutR []=some [] from rfl)
  go_enter Tryz.func47,Tryz.ntmps47
  go_wp2_with fail
  go_ret2
  exact CutR.yes HN.out (by repeat (first|exact zr _|assumption|refine za ?_ _|refine zd ?_|refine zn ?_ _|refine zt ?_ (by assumption))) (Vec.none_ _ _ _) (Nat.le_refl _)
 ·have hl:=List.length_pos_iff.2 h0
  have p0:((s.length:Int)==0)=false:=by rw [beq_eq_false_iff_ne];omega
  have p1:(0:Int)≤(s.length:Int)-1:=by omega
  have p2:(s.length:Int)-1<(s.length:Int):=by omega
  have p3:(s.length:Int)-1≤(s.length:Int):=by omega
  have i1:=IntWalk.i64_in ((s.length:Int)-1) (by omega)
  have e1:((s.length:Int)-1).toNat=s.length-1:=by omega
  have hx:=zaq s (s.length-1)
  have hgt:=zhx h0
  have h5:=fun h=>zam s (s.length-1) h
  have hcr:cutR s=if s.getLast?≠some 10 then none else some (spl 10 s.dropLast):=by rw [cutR,if_neg h0]
  rw [hgt] at hcr
  obtain ⟨x,hxx⟩:∃x,s.getD (s.length-1) 0=x:=⟨_,rfl⟩
  rw [hxx] at hcr h5
  by_cases hx10:x=10
  ·subst hx10
   have HN:=Lib.hid (show cutR s=some (spl 10 (s.take (s.length-1))) by rw [hcr,if_neg (by simp),List.dropLast_eq_take])
   obtain ⟨D,hD⟩:∃D,s.take (s.length-1)=D:=⟨_,rfl⟩
   rw [hD] at hx
   have hDl:D.length≤100000:=by rw [←hD,List.length_take];omega
   rw [hD] at HN
   have HCU:=Lib.hid (fun (w':World)=>(show Calls Tryz.prog 31 #[.string ⟨D.toArray⟩,.int .u8 10] w' fun e w''=>∃(A:Option Addr) (n c:Nat),e = .returned (.slice A n c)∧Ext w' w''∧Vec shStr w'' A n (spl 10 D)∧n≤c from by
    refine (za7 10 D (by omega) w').mono ?_
    rintro e w9 ⟨v,rfl,ho,hb⟩
    obtain ⟨A,c,rfl,hv⟩:=zcf ho
    exact ⟨A,_,c,rfl,hb,hv,zea ho⟩))
   clear hcr hgt hxx hD hl h0
   go_enter Tryz.func47,Tryz.ntmps47
   go_wp2_with (first
    | (go_at_call 31;((with_reducible refine (HCU.out _).mono ?_);rintro e w1 ⟨A1,n1,c1,rfl,hq1,hv1,hc1⟩;have HV1:=Lib.hid hv1;clear hv1)))
   go_ret2
   exact CutR.yes HN.out (by repeat (first|exact zr _|assumption|refine za ?_ _|refine zd ?_|refine zn ?_ _|refine zt ?_ (by assumption))) HV1.out hc1
  ·have HN:=Lib.hid (show cutR s=none by rw [hcr,if_pos (by simpa using hx10)])
   have hne:(x==10)=false:=by simpa using hx10
   have hne2:((x.toNat:Int)==10)=false:=by
    rw [beq_eq_false_iff_ne]
    intro h9
    apply hx10
    have h8:x.toNat=10:=by omega
    rw [←UInt8.toNat_inj]
    exact h8
   have hne3:((x.toNat:Int) != 10)=true:=by rw [bne,hne2];rfl
   clear hcr hgt hxx hl h0 hx
   go_enter Tryz.func47,Tryz.ntmps47
   go_wp2_with fail
   go_ret2
   exact CutR.no HN.out (by repeat (first|exact zr _|assumption|refine za ?_ _|refine zd ?_|refine zn ?_ _|refine zt ?_ (by assumption)))
def LinesR (ls:List (List UInt8)) (w:World) (e:Ending) (w':World):Prop:=∃(V:Value) (ok:Bool),e = .returned (.tuple #[V,.bool ok])∧Ext w w' ∧
 ((linesR atoiO ls []=none∧ok=false∧V = .slice none 0 0)∨∃l,linesR atoiO ls []=some l∧l.length≤100∧ok=true∧OwnQ w' w.heap.size 75 V l.length l)
theorem LinesR.no {ls:List (List UInt8)} {w w':World} (h:linesR atoiO ls []=none) (hb:Ext w w'):LinesR ls w (.returned (.tuple #[.slice none 0 0,.bool false])) w':=⟨_,_,rfl,hb,.inl ⟨h,rfl,rfl⟩⟩
theorem LinesR.yes {ls:List (List UInt8)} {l:List Ro} {k:Nat} {V:Value} {w w':World} (h:linesR atoiO ls []=some l) (hk:l.length=k) (hl:l.length≤100) (hb:Ext w w') (ho:OwnQ w' w.heap.size 75 V k l):LinesR ls w (.returned (.tuple #[V,.bool true])) w':=by
 subst hk
 exact ⟨_,_,rfl,hb,.inr ⟨l,h,hl,rfl,ho⟩⟩
section
variable {at_:List UInt8→Option Int} {s:List UInt8} {r:List (List UInt8)} {acc:List Ro}
theorem zhN {x:Ro} (h:((spl 32 s).getD 0 []==agn5)=false) (hx:rowR at_ s=some x) (hl:¬100≤acc.length):linesR at_ (s::r) acc=linesR at_ r (acc++[x]):=by
 rw [linesR,if_pos (by simpa using h),hx]
 simp only
 rw [if_neg hl]
theorem zhZ (h:((spl 32 s).getD 0 []==agn5)=false) (hx:rowR at_ s=none∨100≤acc.length):linesR at_ (s::r) acc=none:=by
 rw [linesR,if_pos (by simpa using h)]
 rcases hx with hx | hx
 ·rw [hx]
 ·cases rowR at_ s with
  | none=>rfl
  | some x=>simp only;rw [if_pos hx]
theorem zho (h:((spl 32 s).getD 0 []==agn5)=true) (hl:(spl 32 s).length≠3):linesR at_ (s::r) acc=none:=by
 rw [linesR,if_neg (fun h9=>h9 (by simpa using h)),if_pos hl]
theorem zh5 (h:((spl 32 s).getD 0 []==agn5)=true) (hl:(spl 32 s).length=3) (hn:numS ((spl 32 s).getD 1 [])=none∨numS ((spl 32 s).getD 2 [])=none):linesR at_ (s::r) acc=none:=by
 rw [linesR,if_neg (fun h9=>h9 (by simpa using h)),if_neg (fun h9=>h9 hl)]
 rcases hn with hn | hn
 ·rw [hn]
 ·rw [hn]
  cases numS ((spl 32 s).getD 1 []) <;> rfl
theorem zhH {k m:Nat} (h:((spl 32 s).getD 0 []==agn5)=true) (hl:(spl 32 s).length=3) (hk:numS ((spl 32 s).getD 1 [])=some k) (hm:numS ((spl 32 s).getD 2 [])=some m) :
  linesR at_ (s::r) acc=if k<1∨2<k∨m<1∨100<m∨acc.length<k∨100<acc.length+k*m then none else linesR at_ r (copies k (k*m) acc):=by
 rw [linesR,if_neg (fun h9=>h9 (by simpa using h)),if_neg (fun h9=>h9 hl),hk,hm]
end
theorem zmC {ls:List (List UInt8)} {k:Nat} (hk:k<ls.length):ls.drop k=ls.getD k []::ls.drop (k+1):=by
 rw [List.drop_eq_getElem_cons hk,List.getD_eq_getElem?_getD,List.getElem?_eq_getElem hk]
 rfl
theorem ziG (c:UInt8) (s:List UInt8):0<(spl c s).length:=by
 rw [zfk c s.length s (Nat.le_refl _)]
 omega
theorem Vec.word {w:World} {A:Option Addr} {n:Nat} {l:List (List UInt8)} (h:Vec shStr w A n l) {k:Nat} (hk:k<n):∃(b off:Nat),A=some ⟨b,off,none⟩∧b<w.heap.size∧w.cell? ⟨b,off+k,none⟩=some (.string ⟨(l.getD k []).toArray⟩):=by
 obtain ⟨b,off,e,hlt,hc⟩:=h.2 (by omega)
 have hx:l[k]?=some (l.getD k []):=by
  rw [List.getD_eq_getElem?_getD,List.getElem?_eq_getElem (by rw [h.1];exact hk)];rfl
 have h1:=hc k _ hx 0 _ rfl
 refine ⟨b,off,e,hlt,?_⟩
 have e2:k*shStr.size+0=k:=by show k*1+0=k;omega
 rw [e2] at h1
 exact h1
set_option maxHeartbeats 16000000 in
theorem zhB (A:Option Addr) (n c:Nat) (ls:List (List UInt8)) (w:World) (hv:Vec shStr w A n ls) (hn:n≤100000) (hls:∀k,k<n→(ls.getD k []).length≤10000):Calls Tryz.prog 48 #[.slice A n c] w (LinesR ls w):=by
 have HV:=Lib.hid hv
 have hlen:=hv.1
 have HLN:=Lib.hid hv.1
 have HLS:=Lib.hid hls
 clear hv hls hlen
 go_enter Tryz.func48,Tryz.ntmps48
 go_wp2_with fail
 go_loopw [4,5] (fun u i wr=>∃(q r k:Nat) (A':Option Addr) (acc:List Ro),u = .slice A' q r∧i = .int .i64 (k:Int)∧k≤n∧q≤100∧Hid (OwnQ wr w.heap.size 75 (.slice A' q r) q acc∧Ext w wr∧linesR atoiO ls []=linesR atoiO (ls.drop k) acc)) (fun _ i _=>n-(intOf i).toNat)
 case atStart=>exact ⟨0,0,0,none,[],rfl,rfl,Nat.zero_le _,Nat.zero_le _,Lib.hid ⟨OwnQ.nil _ _ _,by repeat (first|exact zr _|assumption|refine za ?_ _|refine zd ?_|refine zn ?_ _|refine zt ?_ (by assumption)),rfl⟩⟩
 case round =>
  obtain ⟨q,r,k,A',acc,rfl,rfl,hk,hq,HH⟩:=hrel
  obtain ⟨wa,rfl⟩:∃wa:World,wa=wr:=⟨_,rfl⟩
  have hxr:=HH.out.2.1
  have HXR:=Lib.hid hxr
  have hql:=HH.out.1.len
  have HQL:=Lib.hid hql
  have HOW:=Lib.hid (fun (w':World) (h:Ext wa w')=>HH.out.1.ext h)
  by_cases hlt:k<n
  ·have q1:(k:Int)<(n:Int):=by omega
   have q0:(0:Int)≤(k:Int):=by omega
   have i5:=IntWalk.i64_in ((k:Int)+1) (by omega)
   obtain ⟨b,off,rfl,hb,hcw⟩:=(HV.out.ext hxr).word hlt
   have hdr:=HH.out.2.2
   rw [zmC (by rw [HLN.out];exact hlt)] at hdr
   have hsl:=HLS.out k hlt
   obtain ⟨s,hs⟩:∃s,ls.getD k []=s:=⟨_,rfl⟩
   rw [hs] at hdr hsl hcw
   have HCU:=Lib.hid (show ∀(w':World),Calls Tryz.prog 31 #[.string ⟨s.toArray⟩,.int .u8 32] w' fun e w''=>∃(g:Option Addr) (c1:Nat),e = .returned (.slice g (spl 32 s).length c1)∧Ext w' w''∧((∃b off,g=some ⟨b,off,none⟩∧b<w''.heap.size∧w''.cell? ⟨b,off,none⟩=some (.string ⟨((spl 32 s).getD 0 []).toArray⟩))∧Vec shStr w'' g (spl 32 s).length (spl 32 s)) from fun w'=>by
    refine (za7 32 s (by omega) w').mono ?_
    rintro e w9 ⟨v,rfl,ho,hb9⟩
    obtain ⟨A9,c9,rfl,hv9⟩:=zcf ho
    exact ⟨A9,c9,rfl,hb9,by simpa using hv9.word (ziG 32 s),hv9⟩)
   have HRW:=Lib.hid (fun (w':World)=>zkh s hsl w')
   have hwl:(spl 32 s).length≤100000:=by
    have:=zlI 32 s
    omega
   have hpos:=ziG 32 s
   obtain ⟨W0,hW0⟩:∃W0,(spl 32 s).getD 0 []=W0:=⟨_,rfl⟩
   obtain ⟨nw,hnw⟩:∃nw,(spl 32 s).length=nw:=⟨_,rfl⟩
   rw [hW0,hnw] at HCU
   rw [hnw] at hwl hpos
   have p6:(0:Int)<(nw:Int):=by omega
   have HS:=Lib.hid hs
   have HW0:=Lib.hid hW0
   have HNW:=Lib.hid hnw
   have HDR:=Lib.hid hdr
   clear hs hdr hsl hxr hW0 hnw
   by_cases hag:(W0==agn5)=false
   ·have hag1:(W0==[97,103,97,105,110])=false:=hag
    have hag2:(W0 != [97,103,97,105,110])=true:=by rw [bne,hag1];rfl
    have hbad:=fun (h:rowR atoiO s=none∨100≤acc.length)=>HDR.out.trans (zhZ (r:=ls.drop (k+1)) (by rw [HW0.out];exact hag) h)
    have hgood:=fun (x:Ro) (h:rowR atoiO s=some x) (h2:¬100≤acc.length)=>HDR.out.trans (zhN (r:=ls.drop (k+1)) (by rw [HW0.out];exact hag) h h2)
    rw [hql] at hbad hgood
    cases hr:rowR atoiO s with
    | none =>
     have HNO:=Lib.hid (hbad (.inl hr))
     have HRN:=Lib.hid (show ∀(w':World),Calls Tryz.prog 82 #[.string ⟨s.toArray⟩] w' fun e w''=>(∃(b:Bool) (A:Option Addr) (n c:Nat),e = .returned (.tuple #[.agg #[.bool b,.slice A n c],.bool false]))∧Ext w' w'' from fun w'=>by
      refine (HRW.out w').mono ?_
      rintro e w9 ⟨b9,A9,n9,c9,ok,rfl,hb9,⟨_,rfl⟩ | ⟨cs,h2,_⟩⟩
      ·exact ⟨⟨b9,A9,n9,c9,rfl⟩,hb9⟩
      ·rw [hr] at h2;cases h2)
     clear hbad hgood hr HRW
     go_wp2_with (first
      | (go_at_call 31;((with_reducible refine (HCU.out _).mono ?_);rintro e w1 ⟨g1,c1,rfl,hq1,HW1⟩;obtain ⟨b1,o1,e9,hb1,hc0⟩:=HW1.1;cases e9;obtain ⟨hs1,hs2,hs3⟩:=(by repeat (first|exact zr _|assumption|refine za ?_ _|refine zd ?_|refine zn ?_ _|refine zt ?_ (by assumption)):Ext wa w1).facts))
      | (go_at_call 82;((with_reducible refine (HRN.out _).mono ?_);rintro e w4 ⟨⟨b4,A4,n4,c4,rfl⟩,hq4⟩)))
     go_ret2
     exact LinesR.no HNO.out (HXR.out.trans (by repeat (first|exact zr _|assumption|refine za ?_ _|refine zd ?_|refine zn ?_ _|refine zt ?_ (by assumption))))
    | some x =>
     have HRN:=Lib.hid (show ∀(w':World),Calls Tryz.prog 82 #[.string ⟨s.toArray⟩] w' fun e w''=>∃(A:Option Addr) (n c:Nat),e = .returned (.tuple #[.agg #[.bool x.back,.slice A n c],.bool true])∧Ext w' w''∧RoAt w'' (fun b=>w'.heap.size≤b) ⟨x.back,A,n,c⟩ x∧n≤c from fun w'=>by
      refine (HRW.out w').mono ?_
      rintro e w9 ⟨b9,A9,n9,c9,ok,rfl,hb9,⟨h2,_⟩ | ⟨cs,h2,rfl,h3,h4,h5,h6,h7⟩⟩
      ·rw [hr] at h2;cases h2
      ·rw [hr] at h2
       cases h2
       exact ⟨A9,n9,c9,rfl,hb9,⟨rfl,h3,h5,h4,h6⟩,h7⟩)
     by_cases h100:100≤q
     ·have HNO:=Lib.hid (hbad (.inr h100))
      have p7:(100:Int)≤(q:Int):=by omega
      clear hbad hgood hr HRW
      go_wp2_with (first
       | (go_at_call 31;((with_reducible refine (HCU.out _).mono ?_);rintro e w1 ⟨g1,c1,rfl,hq1,HW1⟩;obtain ⟨b1,o1,e9,hb1,hc0⟩:=HW1.1;cases e9;obtain ⟨hs1,hs2,hs3⟩:=(by repeat (first|exact zr _|assumption|refine za ?_ _|refine zd ?_|refine zn ?_ _|refine zt ?_ (by assumption)):Ext wa w1).facts))
       | (go_at_call 82;((with_reducible refine (HRN.out _).mono ?_);rintro e w4 ⟨A4,n4,c4,rfl,hq4, -, -⟩)))
      go_ret2
      exact LinesR.no HNO.out (HXR.out.trans (by repeat (first|exact zr _|assumption|refine za ?_ _|refine zd ?_|refine zn ?_ _|refine zt ?_ (by assumption))))
     ·have HYE:=Lib.hid (hgood x hr h100)
      have p7:¬((100:Int)≤(q:Int)):=by omega
      have HQ1:=Lib.hid (show q+1≤1000000 by omega)
      clear hbad hgood hr HRW
      obtain ⟨xb,xc⟩:=x
      go_wp2_with (first
       | (go_at_call 31;((with_reducible refine (HCU.out _).mono ?_);rintro e w1 ⟨g1,c1,rfl,hq1,HW1⟩;obtain ⟨b1,o1,e9,hb1,hc0⟩:=HW1.1;cases e9;obtain ⟨hs1,hs2,hs3⟩:=(by repeat (first|exact zr _|assumption|refine za ?_ _|refine zd ?_|refine zn ?_ _|refine zt ?_ (by assumption)):Ext wa w1).facts))
       | (go_at_call 82;((with_reducible refine (HRN.out _).mono ?_);rintro e w4 ⟨A4,n4,c4,rfl,hq4,hr4,hc4⟩;have HR4:=Lib.hid hr4;have HC4:=Lib.hid hc4;clear hr4 hc4))
       | (at_builtin;(refine zap (w:=w) (t:=acc) (r:=[⟨xb,xc⟩]) (ys:=[⟨xb,A4,n4,c4⟩]) 22 75 (.agg #[.bool false,.slice none 0 0]) 32 (by rfl) (by rfl) Tryz.underlying22 zbq (by rfl) (by omega) (by rfl) (by rfl) (HOW.out _ (by repeat (first|exact zr _|assumption|refine za ?_ _|refine zd ?_|refine zn ?_ _|refine zt ?_ (by assumption)))) (HXR.out.trans (by repeat (first|exact zr _|assumption|refine za ?_ _|refine zd ?_|refine zn ?_ _|refine zt ?_ (by assumption)))) (Vec.lit2 (w:=w4.alloc (.cells #[.bool xb,.slice A4 n4 c4] 75)) (by simp) (by rfl) (by rfl)) (zbw (HR4.out.keep (K':=Kq w.heap.size (.slice A' q r)) (Below.size (show Ext w4 _ by repeat (first|exact zr _|assumption|refine za ?_ _|refine zd ?_|refine zn ?_ _|refine zt ?_ (by assumption)))) (fun b hb hk=>⟨⟨Nat.le_trans (Below.size (HXR.out.trans (show Ext wa _ by repeat (first|exact zr _|assumption|refine za ?_ _|refine zd ?_|refine zn ?_ _|refine zt ?_ (by assumption))))) hk,fun e8=>by have h7:=(HOW.out wa (Ext.refl _)).blk b e8.symm;have h6:=Below.size (show Ext wa _ from hq1);have hk2:w1.heap.size≤b:=Nat.le_trans (by simp) hk;omega⟩,fun o=>Below.cell (p:=⟨b,o,none⟩) (show Ext w4 _ by repeat (first|exact zr _|assumption|refine za ?_ _|refine zd ?_|refine zn ?_ _|refine zt ?_ (by assumption))) hb⟩))) (fun y hy=>by simp at hy;subst hy;exact HC4.out) HQ1.out ?_;intro v' w6 hown6 hext6;obtain ⟨A6,c6,rfl, -⟩:=zbb hown6 HQ1.out;have HO6:=Lib.hid hown6;clear hown6)))
      exact ⟨⟨q+1,c6,k+1,A6,acc++[⟨xb,xc⟩],rfl,by go_num,by omega,by omega,Lib.hid ⟨HO6.out,hext6.out,HYE.out⟩⟩,by simp [intOf];omega⟩
   ·have hag0:(W0==agn5)=true:=by simpa using hag
    have hag1:(W0==[97,103,97,105,110])=true:=hag0
    have hag2:(W0 != [97,103,97,105,110])=false:=by rw [bne,hag1];rfl
    have hlen3:=fun (h:(spl 32 s).length≠3)=>HDR.out.trans (zho (at_:=atoiO) (r:=ls.drop (k+1)) (acc:=acc) (by rw [HW0.out];exact hag0) h)
    have hnum:=fun (h:(spl 32 s).length=3) h2=>HDR.out.trans (zh5 (at_:=atoiO) (r:=ls.drop (k+1)) (acc:=acc) (by rw [HW0.out];exact hag0) h h2)
    have hrep:=fun (h:(spl 32 s).length=3) (k' m:Nat) h2 h3=>HDR.out.trans (zhH (at_:=atoiO) (r:=ls.drop (k+1)) (acc:=acc) (k:=k') (m:=m) (by rw [HW0.out];exact hag0) h h2 h3)
    rw [HNW.out] at hlen3 hnum hrep
    by_cases h3:nw=3
    case neg =>
     have HNO:=Lib.hid (hlen3 h3)
     have p7:((nw:Int) != 3)=true:=by simp;omega
     have p8:((nw:Int)==3)=false:=by rw [beq_eq_false_iff_ne];omega
     clear hlen3 hnum hrep HRW h3
     go_wp2_with (first
      | (go_at_call 31;((with_reducible refine (HCU.out _).mono ?_);rintro e w1 ⟨g1,c1,rfl,hq1,HW1⟩;obtain ⟨b1,o1,e9,hb1,hc0⟩:=HW1.1;cases e9;obtain ⟨hs1,hs2,hs3⟩:=(by repeat (first|exact zr _|assumption|refine za ?_ _|refine zd ?_|refine zn ?_ _|refine zt ?_ (by assumption)):Ext wa w1).facts)))
     go_ret2
     exact LinesR.no HNO.out (HXR.out.trans (by repeat (first|exact zr _|assumption|refine za ?_ _|refine zd ?_|refine zn ?_ _|refine zt ?_ (by assumption))))
    subst h3
    have hnum:=hnum rfl
    have hrep:=hrep rfl
    have hl1:=zf2 32 s 1
    have hl2:=zf2 32 s 2
    have HW1':=Lib.hid (fun (w':World) (g:Option Addr) (h:Vec shStr w' g 3 (spl 32 s))=>And.intro (h.word (k:=1) (by omega)) (h.word (k:=2) (by omega)))
    obtain ⟨U,hU⟩:∃U,(spl 32 s).getD 1 []=U:=⟨_,rfl⟩
    obtain ⟨Z,hZ⟩:∃Z,(spl 32 s).getD 2 []=Z:=⟨_,rfl⟩
    rw [hU] at hnum hrep hl1 HW1'
    rw [hZ] at hnum hrep hl2 HW1'
    have hsl:=HLS.out k hlt
    rw [HS.out] at hsl
    have HN1:=Lib.hid (fun (w':World)=>zae U (by omega) w')
    have HN2:=Lib.hid (fun (w':World)=>zae Z (by omega) w')
    clear hlen3 HRW hU hZ hl1 hl2 hsl
    have HN1:=Lib.hid (show ∀(w':World),Calls Tryz.prog 83 #[.string ⟨U.toArray⟩] w' fun e w''=>e = .returned (.tuple #[.int .i64 (numN U),.bool (numS U).isSome])∧Ext w' w'' from HN1.out)
    have HN2:=Lib.hid (show ∀(w':World),Calls Tryz.prog 83 #[.string ⟨Z.toArray⟩] w' fun e w''=>e = .returned (.tuple #[.int .i64 (numN Z),.bool (numS Z).isSome])∧Ext w' w'' from HN2.out)
    unfold numN at HN1 HN2
    cases hn1:numS U with
    | none =>
     rw [hn1] at HN1
     obtain ⟨v2,hv2⟩:∃v,(((numS Z).getD 0:Nat):Int)=v:=⟨_,rfl⟩
     obtain ⟨f2,hf2⟩:∃v,(numS Z).isSome=v:=⟨_,rfl⟩
     rw [hv2,hf2] at HN2
     simp only [Option.getD_none,Option.isSome_none] at HN1
     clear hv2 hf2
     have HNO:=Lib.hid (hnum (.inl hn1))
     clear hnum hrep
     go_wp2_with (first
      | (go_at_call 31;((with_reducible refine (HCU.out _).mono ?_);rintro e w1 ⟨g1,c1,rfl,hq1,HW1⟩;obtain ⟨b1,o1,e9,hb1,hc0⟩:=HW1.1;cases e9;obtain ⟨⟨b2,o2,e9,_,hc1⟩,⟨b3,o3,e8,_,hc2⟩⟩:=HW1'.out _ _ HW1.2;cases e9;cases e8;obtain ⟨hs1,hs2,hs3⟩:=(by repeat (first|exact zr _|assumption|refine za ?_ _|refine zd ?_|refine zn ?_ _|refine zt ?_ (by assumption)):Ext wa w1).facts))
      | (go_at_call 83;first
       | ((with_reducible refine (HN1.out _).mono ?_);rintro e w2 ⟨rfl,hq2⟩;obtain ⟨ht1,ht2,ht3⟩:=(by repeat (first|exact zr _|assumption|refine za ?_ _|refine zd ?_|refine zn ?_ _|refine zt ?_ (by assumption)):Ext w1 w2).facts)
       | ((with_reducible refine (HN2.out _).mono ?_);rintro e w3 ⟨rfl,hq3⟩)))
     go_ret2
     exact LinesR.no HNO.out (HXR.out.trans (by repeat (first|exact zr _|assumption|refine za ?_ _|refine zd ?_|refine zn ?_ _|refine zt ?_ (by assumption))))
    | some kk =>
     rw [hn1] at HN1
     simp only [Option.getD_some,Option.isSome_some] at HN1
     cases hn2:numS Z with
     | none =>
      rw [hn2] at HN2
      simp only [Option.getD_none,Option.isSome_none] at HN2
      have HNO:=Lib.hid (hnum (.inr hn2))
      clear hnum hrep
      go_wp2_with (first
       | (go_at_call 31;((with_reducible refine (HCU.out _).mono ?_);rintro e w1 ⟨g1,c1,rfl,hq1,HW1⟩;obtain ⟨b1,o1,e9,hb1,hc0⟩:=HW1.1;cases e9;obtain ⟨⟨b2,o2,e9,_,hc1⟩,⟨b3,o3,e8,_,hc2⟩⟩:=HW1'.out _ _ HW1.2;cases e9;cases e8;obtain ⟨hs1,hs2,hs3⟩:=(by repeat (first|exact zr _|assumption|refine za ?_ _|refine zd ?_|refine zn ?_ _|refine zt ?_ (by assumption)):Ext wa w1).facts))
       | (go_at_call 83;first
        | ((with_reducible refine (HN1.out _).mono ?_);rintro e w2 ⟨rfl,hq2⟩;obtain ⟨ht1,ht2,ht3⟩:=(by repeat (first|exact zr _|assumption|refine za ?_ _|refine zd ?_|refine zn ?_ _|refine zt ?_ (by assumption)):Ext w1 w2).facts)
        | ((with_reducible refine (HN2.out _).mono ?_);rintro e w3 ⟨rfl,hq3⟩)))
      go_ret2
      exact LinesR.no HNO.out (HXR.out.trans (by repeat (first|exact zr _|assumption|refine za ?_ _|refine zd ?_|refine zn ?_ _|refine zt ?_ (by assumption))))
     | some mm =>
      rw [hn2] at HN2
      simp only [Option.getD_some,Option.isSome_some] at HN2
      have hrep:=hrep kk mm hn1 hn2
      rw [hql] at hrep
      clear hn1 hn2
      by_cases y1:kk<1
      case pos =>
       have k1:(kk:Int)<1:=by omega
       have HNO:=Lib.hid (hrep.trans (if_pos (.inl y1)))
       clear hnum hrep
       go_wp2_with (first
        | (go_at_call 31;((with_reducible refine (HCU.out _).mono ?_);rintro e w1 ⟨g1,c1,rfl,hq1,HW1⟩;obtain ⟨b1,o1,e9,hb1,hc0⟩:=HW1.1;cases e9;obtain ⟨⟨b2,o2,e9,_,hc1⟩,⟨b3,o3,e8,_,hc2⟩⟩:=HW1'.out _ _ HW1.2;cases e9;cases e8;obtain ⟨hs1,hs2,hs3⟩:=(by repeat (first|exact zr _|assumption|refine za ?_ _|refine zd ?_|refine zn ?_ _|refine zt ?_ (by assumption)):Ext wa w1).facts))
        | (go_at_call 83;first
         | ((with_reducible refine (HN1.out _).mono ?_);rintro e w2 ⟨rfl,hq2⟩;obtain ⟨ht1,ht2,ht3⟩:=(by repeat (first|exact zr _|assumption|refine za ?_ _|refine zd ?_|refine zn ?_ _|refine zt ?_ (by assumption)):Ext w1 w2).facts)
         | ((with_reducible refine (HN2.out _).mono ?_);rintro e w3 ⟨rfl,hq3⟩)))
       go_ret2
       exact LinesR.no HNO.out (HXR.out.trans (by repeat (first|exact zr _|assumption|refine za ?_ _|refine zd ?_|refine zn ?_ _|refine zt ?_ (by assumption))))
      by_cases y2:2<kk
      case pos =>
       have k1:¬((kk:Int)<1):=by omega
       have k2:(2:Int)<(kk:Int):=by omega
       have HNO:=Lib.hid (hrep.trans (if_pos (.inr (.inl y2))))
       clear hnum hrep
       go_wp2_with (first
        | (go_at_call 31;((with_reducible refine (HCU.out _).mono ?_);rintro e w1 ⟨g1,c1,rfl,hq1,HW1⟩;obtain ⟨b1,o1,e9,hb1,hc0⟩:=HW1.1;cases e9;obtain ⟨⟨b2,o2,e9,_,hc1⟩,⟨b3,o3,e8,_,hc2⟩⟩:=HW1'.out _ _ HW1.2;cases e9;cases e8;obtain ⟨hs1,hs2,hs3⟩:=(by repeat (first|exact zr _|assumption|refine za ?_ _|refine zd ?_|refine zn ?_ _|refine zt ?_ (by assumption)):Ext wa w1).facts))
        | (go_at_call 83;first
         | ((with_reducible refine (HN1.out _).mono ?_);rintro e w2 ⟨rfl,hq2⟩;obtain ⟨ht1,ht2,ht3⟩:=(by repeat (first|exact zr _|assumption|refine za ?_ _|refine zd ?_|refine zn ?_ _|refine zt ?_ (by assumption)):Ext w1 w2).facts)
         | ((with_reducible refine (HN2.out _).mono ?_);rintro e w3 ⟨rfl,hq3⟩)))
       go_ret2
       exact LinesR.no HNO.out (HXR.out.trans (by repeat (first|exact zr _|assumption|refine za ?_ _|refine zd ?_|refine zn ?_ _|refine zt ?_ (by assumption))))
      by_cases y3:mm<1
      case pos =>
       have k1:¬((kk:Int)<1):=by omega
       have k2:¬((2:Int)<(kk:Int)):=by omega
       have k3:(mm:Int)<1:=by omega
       have HNO:=Lib.hid (hrep.trans (if_pos (.inr (.inr (.inl y3)))))
       clear hnum hrep
       go_wp2_with (first
        | (go_at_call 31;((with_reducible refine (HCU.out _).mono ?_);rintro e w1 ⟨g1,c1,rfl,hq1,HW1⟩;obtain ⟨b1,o1,e9,hb1,hc0⟩:=HW1.1;cases e9;obtain ⟨⟨b2,o2,e9,_,hc1⟩,⟨b3,o3,e8,_,hc2⟩⟩:=HW1'.out _ _ HW1.2;cases e9;cases e8;obtain ⟨hs1,hs2,hs3⟩:=(by repeat (first|exact zr _|assumption|refine za ?_ _|refine zd ?_|refine zn ?_ _|refine zt ?_ (by assumption)):Ext wa w1).facts))
        | (go_at_call 83;first
         | ((with_reducible refine (HN1.out _).mono ?_);rintro e w2 ⟨rfl,hq2⟩;obtain ⟨ht1,ht2,ht3⟩:=(by repeat (first|exact zr _|assumption|refine za ?_ _|refine zd ?_|refine zn ?_ _|refine zt ?_ (by assumption)):Ext w1 w2).facts)
         | ((with_reducible refine (HN2.out _).mono ?_);rintro e w3 ⟨rfl,hq3⟩)))
       go_ret2
       exact LinesR.no HNO.out (HXR.out.trans (by repeat (first|exact zr _|assumption|refine za ?_ _|refine zd ?_|refine zn ?_ _|refine zt ?_ (by assumption))))
      by_cases y4:100<mm
      case pos =>
       have k1:¬((kk:Int)<1):=by omega
       have k2:¬((2:Int)<(kk:Int)):=by omega
       have k3:¬((mm:Int)<1):=by omega
       have k4:(100:Int)<(mm:Int):=by omega
       have HNO:=Lib.hid (hrep.trans (if_pos (.inr (.inr (.inr (.inl y4))))))
       clear hnum hrep
       go_wp2_with (first
        | (go_at_call 31;((with_reducible refine (HCU.out _).mono ?_);rintro e w1 ⟨g1,c1,rfl,hq1,HW1⟩;obtain ⟨b1,o1,e9,hb1,hc0⟩:=HW1.1;cases e9;obtain ⟨⟨b2,o2,e9,_,hc1⟩,⟨b3,o3,e8,_,hc2⟩⟩:=HW1'.out _ _ HW1.2;cases e9;cases e8;obtain ⟨hs1,hs2,hs3⟩:=(by repeat (first|exact zr _|assumption|refine za ?_ _|refine zd ?_|refine zn ?_ _|refine zt ?_ (by assumption)):Ext wa w1).facts))
        | (go_at_call 83;first
         | ((with_reducible refine (HN1.out _).mono ?_);rintro e w2 ⟨rfl,hq2⟩;obtain ⟨ht1,ht2,ht3⟩:=(by repeat (first|exact zr _|assumption|refine za ?_ _|refine zd ?_|refine zn ?_ _|refine zt ?_ (by assumption)):Ext w1 w2).facts)
         | ((with_reducible refine (HN2.out _).mono ?_);rintro e w3 ⟨rfl,hq3⟩)))
       go_ret2
       exact LinesR.no HNO.out (HXR.out.trans (by repeat (first|exact zr _|assumption|refine za ?_ _|refine zd ?_|refine zn ?_ _|refine zt ?_ (by assumption))))
      by_cases y5:q<kk
      case pos =>
       have k1:¬((kk:Int)<1):=by omega
       have k2:¬((2:Int)<(kk:Int)):=by omega
       have k3:¬((mm:Int)<1):=by omega
       have k4:¬((100:Int)<(mm:Int)):=by omega
       have k5:(q:Int)<(kk:Int):=by omega
       have HNO:=Lib.hid (hrep.trans (if_pos (.inr (.inr (.inr (.inr (.inl y5)))))))
       clear hnum hrep
       go_wp2_with (first
        | (go_at_call 31;((with_reducible refine (HCU.out _).mono ?_);rintro e w1 ⟨g1,c1,rfl,hq1,HW1⟩;obtain ⟨b1,o1,e9,hb1,hc0⟩:=HW1.1;cases e9;obtain ⟨⟨b2,o2,e9,_,hc1⟩,⟨b3,o3,e8,_,hc2⟩⟩:=HW1'.out _ _ HW1.2;cases e9;cases e8;obtain ⟨hs1,hs2,hs3⟩:=(by repeat (first|exact zr _|assumption|refine za ?_ _|refine zd ?_|refine zn ?_ _|refine zt ?_ (by assumption)):Ext wa w1).facts))
        | (go_at_call 83;first
         | ((with_reducible refine (HN1.out _).mono ?_);rintro e w2 ⟨rfl,hq2⟩;obtain ⟨ht1,ht2,ht3⟩:=(by repeat (first|exact zr _|assumption|refine za ?_ _|refine zd ?_|refine zn ?_ _|refine zt ?_ (by assumption)):Ext w1 w2).facts)
         | ((with_reducible refine (HN2.out _).mono ?_);rintro e w3 ⟨rfl,hq3⟩)))
       go_ret2
       exact LinesR.no HNO.out (HXR.out.trans (by repeat (first|exact zr _|assumption|refine za ?_ _|refine zd ?_|refine zn ?_ _|refine zt ?_ (by assumption))))
      by_cases y6:100<q+kk*mm
      case pos =>
       have k1:¬((kk:Int)<1):=by omega
       have k2:¬((2:Int)<(kk:Int)):=by omega
       have k3:¬((mm:Int)<1):=by omega
       have k4:¬((100:Int)<(mm:Int)):=by omega
       have k5:¬((q:Int)<(kk:Int)):=by omega
       obtain ⟨N,hN⟩:∃N,kk*mm=N:=⟨_,rfl⟩
       rw [hN] at y6 hrep
       have hkm:N≤200:=by rw [←hN];exact Nat.mul_le_mul (show kk≤2 by omega) (show mm≤100 by omega)
       have eN:(kk:Int)*(mm:Int)=(N:Int):=by rw [←hN,Int.natCast_mul]
       have j1:=IntWalk.i64_in ((q:Int)+(N:Int)) (by omega)
       have j2:=IntWalk.i64_in (N:Int) (by omega)
       have k6:(100:Int)<(q:Int)+(N:Int):=by omega
       clear hN
       have HNO:=Lib.hid (hrep.trans (if_pos (.inr (.inr (.inr (.inr (.inr y6)))))))
       clear hnum hrep
       go_wp2_with (first
        | (go_at_call 31;((with_reducible refine (HCU.out _).mono ?_);rintro e w1 ⟨g1,c1,rfl,hq1,HW1⟩;obtain ⟨b1,o1,e9,hb1,hc0⟩:=HW1.1;cases e9;obtain ⟨⟨b2,o2,e9,_,hc1⟩,⟨b3,o3,e8,_,hc2⟩⟩:=HW1'.out _ _ HW1.2;cases e9;cases e8;obtain ⟨hs1,hs2,hs3⟩:=(by repeat (first|exact zr _|assumption|refine za ?_ _|refine zd ?_|refine zn ?_ _|refine zt ?_ (by assumption)):Ext wa w1).facts))
        | (go_at_call 83;first
         | ((with_reducible refine (HN1.out _).mono ?_);rintro e w2 ⟨rfl,hq2⟩;obtain ⟨ht1,ht2,ht3⟩:=(by repeat (first|exact zr _|assumption|refine za ?_ _|refine zd ?_|refine zn ?_ _|refine zt ?_ (by assumption)):Ext w1 w2).facts)
         | ((with_reducible refine (HN2.out _).mono ?_);rintro e w3 ⟨rfl,hq3⟩)))
       go_ret2
       exact LinesR.no HNO.out (HXR.out.trans (by repeat (first|exact zr _|assumption|refine za ?_ _|refine zd ?_|refine zn ?_ _|refine zt ?_ (by assumption))))
      have hgood:=hrep.trans (if_neg (by omega))
      have hkm:kk*mm≤200:=Nat.mul_le_mul (show kk≤2 by omega) (show mm≤100 by omega)
      have k1:¬((kk:Int)<1):=by omega
      have k2:¬((2:Int)<(kk:Int)):=by omega
      have k3:¬((mm:Int)<1):=by omega
      have k4:¬((100:Int)<(mm:Int)):=by omega
      have k5:¬((q:Int)<(kk:Int)):=by omega
      obtain ⟨N,hN⟩:∃N,kk*mm=N:=⟨_,rfl⟩
      rw [hN] at y6 hgood hkm
      have eN:(kk:Int)*(mm:Int)=(N:Int):=by rw [←hN,Int.natCast_mul]
      have j1:=IntWalk.i64_in ((q:Int)+(N:Int)) (by omega)
      have j2:=IntWalk.i64_in (N:Int) (by omega)
      have k6:¬((100:Int)<(q:Int)+(N:Int)):=by omega
      have HGD:=Lib.hid hgood
      have HKK:=Lib.hid (show 1≤kk∧kk≤q by omega)
      have HC6:=Lib.hid (show q+N≤100 by omega)
      clear hN hnum hrep hgood
      go_wp2_with (first
       | (go_at_call 31;((with_reducible refine (HCU.out _).mono ?_);rintro e w1 ⟨g1,c1,rfl,hq1,HW1⟩;obtain ⟨b1,o1,e9,hb1,hc0⟩:=HW1.1;cases e9;obtain ⟨⟨b2,o2,e9,_,hc1⟩,⟨b3,o3,e8,_,hc2⟩⟩:=HW1'.out _ _ HW1.2;cases e9;cases e8;obtain ⟨hs1,hs2,hs3⟩:=(by repeat (first|exact zr _|assumption|refine za ?_ _|refine zd ?_|refine zn ?_ _|refine zt ?_ (by assumption)):Ext wa w1).facts))
       | (go_at_call 83;first
        | ((with_reducible refine (HN1.out _).mono ?_);rintro e w2 ⟨rfl,hq2⟩;obtain ⟨ht1,ht2,ht3⟩:=(by repeat (first|exact zr _|assumption|refine za ?_ _|refine zd ?_|refine zn ?_ _|refine zt ?_ (by assumption)):Ext w1 w2).facts)
        | ((with_reducible refine (HN2.out _).mono ?_);rintro e w3 ⟨rfl,hq3⟩)))
      have HE3:=Lib.hid (show Ext wa w3 by repeat (first|exact zr _|assumption|refine za ?_ _|refine zd ?_|refine zn ?_ _|refine zt ?_ (by assumption)))
      have b1:decide ((kk:Int)<1)=false:=decide_eq_false (by omega)
      have b2:decide ((2:Int)<(kk:Int))=false:=decide_eq_false (by omega)
      have b4:decide ((mm:Int)<1)=false:=decide_eq_false (by omega)
      have b5:decide ((100:Int)<(mm:Int))=false:=decide_eq_false (by omega)
      have b6:decide ((100:Int)<(q:Int)+(N:Int))=false:=decide_eq_false (by omega)
      simp only [b1,b2,b4,b5,b6,Bool.or_false]
      clear b1 b2 b4 b5 b6 y1 y2 y3 y4 y5 y6 k1 k2 k3 k4 k5 k6
      go_loopw [4,13] (fun u i wi=>∃(j p r':Nat) (A2:Option Addr) (acc':List Ro),u = .slice A2 p r'∧i = .int .i64 (j:Int)∧j≤N∧Hid (p=q+j)∧Hid (OwnQ wi w.heap.size 75 (.slice A2 p r') p acc'∧Ext w wi∧copies kk N acc=copies kk (N-j) acc')) (fun _ i _=>N-(intOf i).toNat)
      case atStart=>exact ⟨0,q,r,A',acc,rfl,rfl,Nat.zero_le _,Lib.hid rfl,Lib.hid ⟨HOW.out _ HE3.out,HXR.out.trans HE3.out,rfl⟩⟩
      case round =>
       obtain ⟨j,p,r',A2,acc',rfl,rfl,hj,hp,HI⟩:=hrel
       obtain ⟨wb,rfl⟩:∃wb:World,wb=wr:=⟨_,rfl⟩
       have hpb:p≤300:=by have:=hp.out;omega
       have hpk:kk≤p:=by have:=hp.out;have:=HKK.out;omega
       by_cases hlt2:j<N
       ·have r1:(j:Int)<(N:Int):=by omega
        have hkk:=HKK.out
        obtain ⟨b0,off0,x,rfl,hb0,d0,d1,hro,hxc⟩:=HI.out.1.row (j:=p-kk) (by omega)
        have e2:((p:Int)-(kk:Int)).toNat=p-kk:=by omega
        have i1:=IntWalk.i64_in ((p:Int)-(kk:Int)) (by omega)
        have i2:=IntWalk.i64_in ((j:Int)+1) (by omega)
        have z0:(0:Int)≤(p:Int)-(kk:Int):=by omega
        have z1:(p:Int)-(kk:Int)<(p:Int):=by omega
        have z2:(0:Int)≤(j:Int):=by omega
        have hl2:=HI.out.1.len
        have HCO:=Lib.hid (show copies kk N acc=copies kk (N-(j+1)) (acc'++[acc'.getD (p-kk) ro0]) by
         rw [HI.out.2.2,show N-j=N-(j+1)+1 by omega,copies,hl2])
        obtain ⟨xb,xA,xn,xc⟩:=x
        simp only at d0 d1 hxc
        have HRO:=Lib.hid hro
        clear hro
        go_wp2_with (first
         | (at_builtin;(refine zap (w:=w) (t:=acc') (r:=[acc'.getD (p-kk) ro0]) (ys:=[⟨xb,xA,xn,xc⟩]) 22 75 (.agg #[.bool false,.slice none 0 0]) 32 (by rfl) (by rfl) Tryz.underlying22 zbq (by rfl) (by omega) (by rfl) (by rfl) (HI.out.1.ext (by repeat (first|exact zr _|assumption|refine za ?_ _|refine zd ?_|refine zn ?_ _|refine zt ?_ (by assumption)))) (HI.out.2.1.trans (by repeat (first|exact zr _|assumption|refine za ?_ _|refine zd ?_|refine zn ?_ _|refine zt ?_ (by assumption)))) (Vec.lit2 (w:=wb) (by rfl) (by rfl) (by rfl)) (zbw (HRO.out.keep (Below.size (show Ext wb _ by repeat (first|exact zr _|assumption|refine za ?_ _|refine zd ?_|refine zn ?_ _|refine zt ?_ (by assumption)))) (fun b hb hk=>⟨hk,fun o=>Below.cell (p:=⟨b,o,none⟩) (show Ext wb _ by repeat (first|exact zr _|assumption|refine za ?_ _|refine zd ?_|refine zn ?_ _|refine zt ?_ (by assumption))) hb⟩))) (fun y hy=>by simp at hy;subst hy;exact hxc) (by omega) ?_;intro v' w6 hown6 hext6;obtain ⟨A6,c6,rfl, -⟩:=zbb hown6 (by omega);have HO6:=Lib.hid hown6;clear hown6)))
        go_roundw
        case rel=>exact ⟨j+1,p+1,c6,A6,acc'++[acc'.getD (p-kk) ro0],by go_num,by go_num,by omega,Lib.hid (by have:=hp.out;omega),Lib.hid ⟨HO6.out,hext6.out,HCO.out⟩⟩
        case measure=>simp [intOf] <;> omega
       ·obtain rfl:N=j:=by omega
        have hco:=HI.out.2.2
        rw [Nat.sub_self] at hco
        have HCO:=Lib.hid (show copies kk N acc=acc' from hco)
        have r1:¬((N:Int)<(N:Int)):=by omega
        have hp100:p≤100:=by have:=hp.out;have:=HC6.out;omega
        clear hco
        go_wp2_with fail
        go_roundw
        case rel=>exact ⟨p,r',k+1,A2,acc',by go_num,by go_num,by omega,hp100,Lib.hid ⟨HI.out.1,HI.out.2.1,by rw [HGD.out,HCO.out]⟩⟩
        case measure=>simp [intOf] <;> omega
  ·obtain rfl:k=n:=by omega
   have hfin:=HH.out.2.2
   rw [List.drop_eq_nil_of_le (by rw [HLN.out];omega)] at hfin
   have HF:=Lib.hid (show linesR atoiO ls []=some acc from hfin)
   have q1:¬((k:Int)<(k:Int)):=by omega
   clear hfin hxr
   go_wp2_with fail
   go_ret2
   exact LinesR.yes HF.out hql (by omega) HXR.out HH.out.1
end Go.Proofs.YtkneghkbgingdaaGreatDoor
