/- The reference's Same of two patterns that read alike. -/
import Derived.Test.YtkneghkbgingdaaGreatDoorK47
set_option maxHeartbeats 16000000
namespace Go.Proofs.YtkneghkbgingdaaGreatDoor
set_option maxRecDepth 100000
open Go.RowKit Go.ChangeShapes Go.WideShapes Go.Joins
theorem zaZ (nm:List UInt8) (g1 g2 g3 g4:Int) (As Bs:Option Addr) (ns cs ds:Nat) (st:List Stf) (Ac Bc:Option Addr) (nc cc dc:Nat) (se:List Sec) (w:World) (hs:Vec shStf w As ns st) (hc:Secs w Ac nc se)
  (hs2:Vec shStf w Bs ns st) (hc2:Secs w Bc nc se) (hns:ns≤1000000) :
  Calls Tryz.prog 20 #[.agg #[.string ⟨nm.toArray⟩,.int .i64 g1,.int .i64 g2,.int .i64 g3,.int .i64 g4,.slice As ns cs,.slice Ac nc cc],.agg #[.string ⟨nm.toArray⟩,.int .i64 g1,.int .i64 g2,.int .i64 g3,.int .i64 g4,.slice Bs ns ds,.slice Bc nc dc]] w fun e w'=>e = .returned (.bool true)∧Ext w w':=by
 have hnc:=hc.1
 unfold maxLen at hnc
 have HS:=Za hs
 have HC:=Za hc
 have HS2:=Za hs2
 have HC2:=Za hc2
 have HB1:=Za ((BoxP.start w nm g1 g2 g3 g4 As ns cs Ac nc cc).ext ((Zd _).alloc (.cells #[.string ⟨nm.toArray⟩,.int .i64 g1,.int .i64 g2,.int .i64 g3,.int .i64 g4,.slice Bs ns ds,.slice Bc nc dc] 42)))
 have HB2:=Za (BoxP.start (w.alloc (.cells #[.string ⟨nm.toArray⟩,.int .i64 g1,.int .i64 g2,.int .i64 g3,.int .i64 g4,.slice As ns cs,.slice Ac nc cc] 42)) nm g1 g2 g3 g4 Bs ns ds Bc nc dc)
 rw [ZI] at HB2
 have HW0:=Za (((Zd w).alloc (.cells #[.string ⟨nm.toArray⟩,.int .i64 g1,.int .i64 g2,.int .i64 g3,.int .i64 g4,.slice As ns cs,.slice Ac nc cc] 42)).alloc (.cells #[.string ⟨nm.toArray⟩,.int .i64 g1,.int .i64 g2,.int .i64 g3,.int .i64 g4,.slice Bs ns ds,.slice Bc nc dc] 42))
 clear hs hc hs2 hc2
 obtain ⟨WB,hWB⟩:∃W,(w.alloc (.cells #[.string ⟨nm.toArray⟩,.int .i64 g1,.int .i64 g2,.int .i64 g3,.int .i64 g4,.slice As ns cs,.slice Ac nc cc] 42)).alloc (.cells #[.string ⟨nm.toArray⟩,.int .i64 g1,.int .i64 g2,.int .i64 g3,.int .i64 g4,.slice Bs ns ds,.slice Bc nc dc] 42)=W:=⟨_,rfl⟩
 rw [hWB] at HB1 HB2 HW0
 have HWB:=Za hWB
 clear hWB
 go_enter Tryz.func20,Tryz.ntmps20
 go_wp2_with fail
 go_loopw [5] (fun i wr=>∃(k:Nat),i = .int .i64 (k:Int)∧k≤ns∧Hid (Ext WB wr)) (fun i _=>ns-(intOf i).toNat)
 case atStart=>exact ⟨0,rfl,Zu _,Za (by rw [←HWB.out];repeat (first|exact zr _|assumption|refine za ?_ _|refine zd ?_|refine zn ?_ _|refine zt ?_ (by assumption)))⟩
 case round =>
  obtain ⟨k,rfl,hk,HE⟩:=hrel
  obtain ⟨wq,rfl⟩:∃wq:World,wq=wr:=⟨_,rfl⟩
  obtain ⟨x0,x1,x2,x3,x4,x5,x6,xz⟩:=(HB1.out.ext HE.out).facts
  obtain ⟨y0,y1,y2,y3,y4,y5,y6,yz⟩:=(HB2.out.ext HE.out).facts
  by_cases hlt:k<ns
  ·obtain ⟨b,off,rfl,hb,c0,c1⟩:=Stf.at_ (HS.out.ext (HW0.out.trans HE.out)) hlt
   obtain ⟨b',off',rfl,hb',e0,e1⟩:=Stf.at_ (HS2.out.ext (HW0.out.trans HE.out)) hlt
   have q0:(0:Int)≤(k:Int):=by omega
   have q1:(k:Int)<(ns:Int):=by omega
   generalize stN st k=Y at *
   generalize (st.getD k stf0).g=G at *
   go_wp2_with fail
   go_region_held3 (fun w'=>w'.cell? ⟨w.heap.size,5,none⟩=some (.slice (some ⟨b,off,none⟩) ns cs)∧w'.cell? ⟨w.heap.size+1,5,none⟩=some (.slice (some ⟨b',off',none⟩) ns ds)∧w'.cell? ⟨b,off+k*2,none⟩=some (.string ⟨Y.toArray⟩)∧w'.cell? ⟨b,off+k*2+1,none⟩=some (.int .i64 G)∧w'.cell? ⟨b',off'+k*2,none⟩=some (.string ⟨Y.toArray⟩)∧w'.cell? ⟨b',off'+k*2+1,none⟩=some (.int .i64 G)) (go_keep) (first | fail)
   go_wp2
   go_roundw
   case rel=>exact ⟨k+1,by go_num,by omega,Za (by have h9:=HE.out;repeat (first|exact zr _|assumption|refine za ?_ _|refine zd ?_|refine zn ?_ _|refine zt ?_ (by assumption)))⟩
   case measure=>simp [intOf];omega
  ·obtain rfl:k=ns:=by omega
   go_wp2_with fail
   have HE0:=HE
   clear x0 x1 x2 x3 x4 x5 x6 xz y0 y1 y2 y3 y4 y5 y6 yz
   go_loopw [6] (fun i wr=>∃(k:Nat),i = .int .i64 (k:Int)∧k≤nc∧Hid (Ext WB wr)) (fun i _=>nc-(intOf i).toNat)
   case atStart=>exact ⟨0,rfl,Zu _,Za (by have h9:=HE0.out;repeat (first|exact zr _|assumption|refine za ?_ _|refine zd ?_|refine zn ?_ _|refine zt ?_ (by assumption)))⟩
   case round =>
    obtain ⟨k,rfl,hk,HE⟩:=hrel
    obtain ⟨wz,rfl⟩:∃wz:World,wz=wr:=⟨_,rfl⟩
    obtain ⟨x0,x1,x2,x3,x4,x5,x6,xz⟩:=(HB1.out.ext HE.out).facts
    obtain ⟨y0,y1,y2,y3,y4,y5,y6,yz⟩:=(HB2.out.ext HE.out).facts
    by_cases hlt:k<nc
    ·obtain ⟨b,off,A1,n1,z1,rfl,hb,c0,c1,c2,hr1, -⟩:=(HC.out.ext (HW0.out.trans HE.out)).at_ hlt
     obtain ⟨b',off',A2,n2,z2,rfl,hb',e0,e1,e2,hr2, -⟩:=(HC2.out.ext (HW0.out.trans HE.out)).at_ hlt
     have q0:(0:Int)≤(k:Int):=by omega
     have q1:(k:Int)<(nc:Int):=by omega
     generalize seN se k=Y at *
     generalize (se.getD k sec0).s=G at *
     generalize (se.getD k sec0).rows=R at *
     have HR1:=Za hr1
     have HR2:=Za hr2
     clear hr1 hr2
     go_wp2_with fail
     go_region_held3 (fun w'=>w'.cell? ⟨w.heap.size,6,none⟩=some (.slice (some ⟨b,off,none⟩) nc cc)∧w'.cell? ⟨w.heap.size+1,6,none⟩=some (.slice (some ⟨b',off',none⟩) nc dc)∧w'.cell? ⟨b,off+k*3,none⟩=some (.string ⟨Y.toArray⟩)∧w'.cell? ⟨b',off'+k*3,none⟩=some (.string ⟨Y.toArray⟩)∧w'.cell? ⟨b,off+k*3+1,none⟩=some (.int .i64 G)∧w'.cell? ⟨b',off'+k*3+1,none⟩=some (.int .i64 G)∧w'.cell? ⟨b,off+k*3+1+1,none⟩=some (.slice A1 n1 z1)∧w'.cell? ⟨b',off'+k*3+1+1,none⟩=some (.slice A2 n2 z2)) (go_keep)
      (first | (go_at_call 14;((with_reducible refine (zat G G A1 A2 n1 n2 z1 z2 R R _ (HR1.out.ext zx) (HR2.out.ext zx)).mono ?_);rintro e w1 ⟨rfl,hq1⟩;rw [zax];have hq9:Ext wz w1:=(zx);obtain ⟨hg1,hg2,hg3⟩:=hq9.facts)))
     go_wp2
     go_roundw
     case rel=>exact ⟨k+1,by go_num,by omega,Za (HE.out.trans hq9)⟩
     case measure=>simp [intOf];omega
    ·obtain rfl:k=nc:=by omega
     go_wp2_with fail
     go_ret
     exact ⟨rfl,HW0.out.trans HE.out⟩
end Go.Proofs.YtkneghkbgingdaaGreatDoor
/- What the calls of PatternBack return. -/
namespace Go.Proofs.YtkneghkbgingdaaGreatDoor
set_option maxRecDepth 100000
open Go.ChangeShapes Go.WideShapes Go.ChangeAt Go.RowKit Go.Joins
theorem zbc {nm:List UInt8} {ns nc:Nat} {st:List Stf} {se:List Sec} (h:SmallP nm ns nc st se):ns≤1000000:=by have:=h.1;omega
theorem zgn {s:List UInt8} (h:wordS s=true):s.length≤100000:=by
 rcases Z1 40 s.length with h1 | h1
 ·rw [zct (.inr h1)] at h;cases h
 ·omega
theorem zi5 {nm:List UInt8} {ge:Int} {st:List Stf} {se:List Sec} (h:patE nm ge st se=0):nm.length≤100000∧(∀i,i<st.length→(stN st i).length≤100000)∧(∀i,i<se.length→(seN se i).length≤100000)∧st.length≤10000∧se.length≤10000:=by
 unfold patE at h
 split at h
 ·cases h
 ·rename_i h1
  split at h
  ·rename_i h2
   unfold fineP at h2
   simp only [Zs,Zx] at h2
   obtain ⟨⟨⟨⟨⟨a1,a2⟩,a3⟩,_⟩,_⟩,_⟩:=h2
   exact ⟨zgn a1,fun i hi=>zgn (Zq.1 a2 i (ZE.2 hi)),fun i hi=>zgn (Zq.1 a3 i (ZE.2 hi)),by omega,by omega⟩
  ·cases h
structure BkH (sc:Int) (A:Option Addr) (n c:Nat) (rows:List Ro) (nm:List UInt8) (g1 g2 g3 g4:Int) (As:Option Addr) (ns cs:Nat) (st:List Stf) (Ac:Option Addr) (nc cc:Nat) (se:List Sec) (start:Int) (s t:List UInt8) (w:World) (E1 E2 E3 S3:Int) (V1 V2:List UInt8) (L3:List Ro):Prop where
 hr:Rws w (fun _=>True) A n rows
 hs:Vec shStf w As ns st
 hsm:ns≤maxLen
 hc:Secs w Ac nc se
 hg:Glob w
 h3:¬((3000:Int)<(s.length:Int))
 h4:¬((3000:Int)<(t.length:Int))
 hRW:∀(w':World),Ext ((w.alloc (.cells #[.int .i64 sc,.slice A n c] 24)).alloc (.cells #[.string ⟨nm.toArray⟩,.int .i64 g1,.int .i64 g2,.int .i64 g3,.int .i64 g4,.slice As ns cs,.slice Ac nc cc] 42)) w'→Calls Tryz.prog 10 #[.agg #[.int .i64 sc,.slice A n c]] w' fun e w''=>e = .returned (.tuple #[.string ⟨V1.toArray⟩,.int .i64 E1])∧Ext w' w''
 hRA:E1=0→∀(w':World),Ext ((w.alloc (.cells #[.int .i64 sc,.slice A n c] 24)).alloc (.cells #[.string ⟨nm.toArray⟩,.int .i64 g1,.int .i64 g2,.int .i64 g3,.int .i64 g4,.slice As ns cs,.slice Ac nc cc] 42)) w'→Calls Tryz.prog 12 #[.int .i64 sc,.string ⟨V1.toArray⟩] w' fun e w''=>∃(A':Option Addr) (c':Nat),e = .returned (.tuple #[.agg #[.int .i64 sc,.slice A' n c'],.int .i64 0])∧Ext w' w''∧Rws w'' (fun _=>True) A' n rows
 hTX:SmallP nm ns nc st se→∀(w':World),Ext ((w.alloc (.cells #[.int .i64 sc,.slice A n c] 24)).alloc (.cells #[.string ⟨nm.toArray⟩,.int .i64 g1,.int .i64 g2,.int .i64 g3,.int .i64 g4,.slice As ns cs,.slice Ac nc cc] 42)) w'→Calls Tryz.prog 16 #[.agg #[.string ⟨nm.toArray⟩,.int .i64 g1,.int .i64 g2,.int .i64 g3,.int .i64 g4,.slice As ns cs,.slice Ac nc cc]] w' fun e w''=>e = .returned (.tuple #[.string ⟨V2.toArray⟩,.int .i64 E2])∧Ext w' w''
 hPB:E2=0→∀(w':World),Ext ((w.alloc (.cells #[.int .i64 sc,.slice A n c] 24)).alloc (.cells #[.string ⟨nm.toArray⟩,.int .i64 g1,.int .i64 g2,.int .i64 g3,.int .i64 g4,.slice As ns cs,.slice Ac nc cc] 42)) w'→Calls Tryz.prog 18 #[.string ⟨V2.toArray⟩] w' fun e w''=>∃(As' Ac':Option Addr) (cs' cc':Nat),e = .returned (.tuple #[.agg #[.string ⟨nm.toArray⟩,.int .i64 g1,.int .i64 g2,.int .i64 g3,.int .i64 g4,.slice As' ns cs',.slice Ac' nc cc'],.int .i64 0])∧Ext w' w''∧Vec shStf w'' As' ns st∧Secs w'' Ac' nc se
 hRS:∀(w':World),Ext ((w.alloc (.cells #[.int .i64 sc,.slice A n c] 24)).alloc (.cells #[.string ⟨nm.toArray⟩,.int .i64 g1,.int .i64 g2,.int .i64 g3,.int .i64 g4,.slice As ns cs,.slice Ac nc cc] 42)) w'→Calls Tryz.prog 12 #[.int .i64 start,.string ⟨s.toArray⟩] w' fun e w''=>∃(A':Option Addr) (n' c':Nat),e = .returned (.tuple #[.agg #[.int .i64 S3,.slice A' n' c'],.int .i64 E3])∧Ext w' w''∧Rws w'' (fun _=>True) A' n' L3
 hC:(E3=0∧S3=start∧∀(A':Option Addr) (n' c':Nat),∀(w':World),Ext ((w.alloc (.cells #[.int .i64 sc,.slice A n c] 24)).alloc (.cells #[.string ⟨nm.toArray⟩,.int .i64 g1,.int .i64 g2,.int .i64 g3,.int .i64 g4,.slice As ns cs,.slice Ac nc cc] 42)) w'→Rws w' (fun _=>True) A' n' L3→Calls Tryz.prog 10 #[.agg #[.int .i64 start,.slice A' n' c']] w' fun e w''=>e = .returned (.tuple #[.string ⟨s.toArray⟩,.int .i64 0])∧Ext w' w'')∨E3=12
 hPT:(∀(w':World),Ext ((w.alloc (.cells #[.int .i64 sc,.slice A n c] 24)).alloc (.cells #[.string ⟨nm.toArray⟩,.int .i64 g1,.int .i64 g2,.int .i64 g3,.int .i64 g4,.slice As ns cs,.slice Ac nc cc] 42)) w'→Calls Tryz.prog 18 #[.string ⟨t.toArray⟩] w' fun e w''=>e = .returned (.tuple #[.agg #[.string ⟨#[]⟩,.int .i64 0,.int .i64 0,.int .i64 0,.int .i64 0,.slice none 0 0,.slice none 0 0],.int .i64 12])∧Ext w' w'') ∨
  ∃q:PSt,(∀(w':World),Ext ((w.alloc (.cells #[.int .i64 sc,.slice A n c] 24)).alloc (.cells #[.string ⟨nm.toArray⟩,.int .i64 g1,.int .i64 g2,.int .i64 g3,.int .i64 g4,.slice As ns cs,.slice Ac nc cc] 42)) w'→Calls Tryz.prog 18 #[.string ⟨t.toArray⟩] w' fun e w''=>∃(As' Ac':Option Addr) (cs' cc':Nat),e = .returned (.tuple #[.agg #[.string ⟨q.nm.toArray⟩,.int .i64 q.g1,.int .i64 q.g2,.int .i64 q.g3,.int .i64 q.g4,.slice As' q.st.length cs',.slice Ac' q.se.length cc'],.int .i64 0])∧Ext w' w''∧Vec shStf w'' As' q.st.length q.st∧Secs w'' Ac' q.se.length q.se) ∧
   ∀(As' Ac':Option Addr) (cs' cc':Nat),∀(w':World),Ext ((w.alloc (.cells #[.int .i64 sc,.slice A n c] 24)).alloc (.cells #[.string ⟨nm.toArray⟩,.int .i64 g1,.int .i64 g2,.int .i64 g3,.int .i64 g4,.slice As ns cs,.slice Ac nc cc] 42)) w'→Vec shStf w' As' q.st.length q.st→Secs w' Ac' q.se.length q.se→Calls Tryz.prog 16 #[.agg #[.string ⟨q.nm.toArray⟩,.int .i64 q.g1,.int .i64 q.g2,.int .i64 q.g3,.int .i64 q.g4,.slice As' q.st.length cs',.slice Ac' q.se.length cc']] w' fun e w''=>e = .returned (.tuple #[.string ⟨t.toArray⟩,.int .i64 0])∧Ext w' w''
theorem zj4 (sc:Int) (A:Option Addr) (n c:Nat) (rows:List Ro) (nm:List UInt8) (g1 g2 g3 g4:Int) (As:Option Addr) (ns cs:Nat) (st:List Stf) (Ac:Option Addr) (nc cc:Nat) (se:List Sec) (start:Int) (s t:List UInt8) (w:World) (hr:Rws w (fun _=>True) A n rows) (hs:Vec shStf w As ns st) (hsm:ns≤maxLen) (hc:Secs w Ac nc se) (hg:Glob w) (h3:¬((3000:Int)<(s.length:Int))) (h4:¬((3000:Int)<(t.length:Int))) :
  BkH sc A n c rows nm g1 g2 g3 g4 As ns cs st Ac nc cc se start s t w (rowsE sc rows) (ptxE nm (gerr g1 g2 g3 g4) g1 g2 g3 g4 st se) (rwE atoiO start s) (rwS atoiO start s) (rowsV sc rows) (ptxV nm (gerr g1 g2 g3 g4) g1 g2 g3 g4 st se) (rwL atoiO start s):=by
 have HR:=Za hr
 have HSV:=Za hs
 have HCV:=Za hc
 have HG:=Za hg
 have HW0:=Za (show Ext w ((w.alloc (.cells #[.int .i64 sc,.slice A n c] 24)).alloc (.cells #[.string ⟨nm.toArray⟩,.int .i64 g1,.int .i64 g2,.int .i64 g3,.int .i64 g4,.slice As ns cs,.slice Ac nc cc] 42)) from ((Zd w).alloc _).alloc _)
 have hns:st.length=ns:=HSV.out.1
 have hnc:se.length=nc:=HCV.out.len
 have hRW:=fun (w':World) (hx:Ext ((w.alloc (.cells #[.int .i64 sc,.slice A n c] 24)).alloc (.cells #[.string ⟨nm.toArray⟩,.int .i64 g1,.int .i64 g2,.int .i64 g3,.int .i64 g4,.slice As ns cs,.slice Ac nc cc] 42)) w')=>zaY sc A n c rows w' (HR.out.ext (HW0.out.trans hx)) (HG.out.ext (HW0.out.trans hx))
 unfold PRowsR at hRW
 have hRA:rowsE sc rows=0→∀(w':World) (_:Ext ((w.alloc (.cells #[.int .i64 sc,.slice A n c] 24)).alloc (.cells #[.string ⟨nm.toArray⟩,.int .i64 g1,.int .i64 g2,.int .i64 g3,.int .i64 g4,.slice As ns cs,.slice Ac nc cc] 42)) w'),Calls Tryz.prog 12 #[.int .i64 sc,.string ⟨(rowsV sc rows).toArray⟩] w' fun e w''=>∃(A':Option Addr) (c':Nat),e = .returned (.tuple #[.agg #[.int .i64 sc,.slice A' n c'],.int .i64 0])∧Ext w' w''∧Rws w'' (fun _=>True) A' n rows:=fun h0 w' hx=>by
  obtain ⟨-,T,hT,hTl,hTv⟩:=zg1 h0
  refine (zbk sc (rowsV sc rows) (by rw [hTv];omega) w' (HG.out.ext (HW0.out.trans hx))).mono ?_
  rintro e w'' ⟨A',n',c',rfl,h1,h2⟩
  obtain ⟨e1,e2,e3⟩:=ze7 ((zei zj3).2 ⟨h0,rfl⟩)
  rw [e2] at h2
  obtain rfl:n'=n:=by rw [←h2.len];exact HR.out.len
  rw [e1,e3]
  exact ⟨A',c',rfl,h1,h2.any⟩
 have hTX:=fun (h:SmallP nm ns nc st se) (w':World) (hx:Ext ((w.alloc (.cells #[.int .i64 sc,.slice A n c] 24)).alloc (.cells #[.string ⟨nm.toArray⟩,.int .i64 g1,.int .i64 g2,.int .i64 g3,.int .i64 g4,.slice As ns cs,.slice Ac nc cc] 42)) w')=>zbl nm g1 g2 g3 g4 As ns cs st Ac nc cc se w' (HSV.out.ext (HW0.out.trans hx)) (HCV.out.ext (HW0.out.trans hx)) (by have:=h.2.2.1;omega) (fun i hi=>by have:=h.2.2.2.1 i hi;omega) (fun i hi=>by have:=h.2.2.2.2 i hi;omega) (by have:=h.1;omega) (by have:=h.2.1;omega) (HG.out.ext (HW0.out.trans hx)) (zbe _ _ _ _)
 unfold PtxR at hTX
 have hPB:ptxE nm (gerr g1 g2 g3 g4) g1 g2 g3 g4 st se=0→∀(w':World) (_:Ext ((w.alloc (.cells #[.int .i64 sc,.slice A n c] 24)).alloc (.cells #[.string ⟨nm.toArray⟩,.int .i64 g1,.int .i64 g2,.int .i64 g3,.int .i64 g4,.slice As ns cs,.slice Ac nc cc] 42)) w'),Calls Tryz.prog 18 #[.string ⟨(ptxV nm (gerr g1 g2 g3 g4) g1 g2 g3 g4 st se).toArray⟩] w' fun e w''=>∃(As' Ac':Option Addr) (cs' cc':Nat),e = .returned (.tuple #[.agg #[.string ⟨nm.toArray⟩,.int .i64 g1,.int .i64 g2,.int .i64 g3,.int .i64 g4,.slice As' ns cs',.slice Ac' nc cc'],.int .i64 0])∧Ext w' w''∧Vec shStf w'' As' ns st∧Secs w'' Ac' nc se:=fun h0 w' hx=>by
  have h9:=zeh h0
  have hp:patP atoiO gerr (ptxV nm (gerr g1 g2 g3 g4) g1 g2 g3 g4 st se)=some ⟨nm,g1,g2,g3,g4,st,se⟩:=(zcT zeM zbe).2 ⟨h9.2.2,h9.1,h9.2.1⟩
  refine (za4 _ (by have:=h9.2.2;omega) w' (HG.out.ext (HW0.out.trans hx))).mono ?_
  rintro e w'' ⟨h1,⟨h2, -⟩ | ⟨p,As',Ac',cs',cc',h2,rfl,h3,h4, -⟩⟩
  ·rw [hp] at h2;cases h2
  ·rw [hp] at h2
   cases h2
   rw [show (PSt.st ⟨nm,g1,g2,g3,g4,st,se⟩).length=ns from hns] at h3 ⊢
   rw [show (PSt.se ⟨nm,g1,g2,g3,g4,st,se⟩).length=nc from hnc] at h4 ⊢
   exact ⟨As',Ac',cs',cc',rfl,h1,h3,h4⟩
 have hRS:=fun (w':World) (hx:Ext ((w.alloc (.cells #[.int .i64 sc,.slice A n c] 24)).alloc (.cells #[.string ⟨nm.toArray⟩,.int .i64 g1,.int .i64 g2,.int .i64 g3,.int .i64 g4,.slice As ns cs,.slice Ac nc cc] 42)) w')=>zbk start s (by omega) w' (HG.out.ext (HW0.out.trans hx))
 unfold RdR at hRS
 have hC:(rwE atoiO start s=0∧rwS atoiO start s=start∧rowsE start (rwL atoiO start s)=0∧rowsV start (rwL atoiO start s)=s)∨rwE atoiO start s=12:=by
  cases h:rdP atoiO start s with
  | none=>exact .inr (zlb h).2.2
  | some l =>
   obtain ⟨e1,e2,e3⟩:=ze7 h
   obtain ⟨f1,f2⟩:=(zei zj3).1 h
   rw [e1,e2,e3]
   exact .inl ⟨rfl,rfl,f1,f2⟩
 have hRX:rowsE start (rwL atoiO start s)=0→rowsV start (rwL atoiO start s)=s→∀(A':Option Addr) (n' c':Nat) (w':World) (_:Ext ((w.alloc (.cells #[.int .i64 sc,.slice A n c] 24)).alloc (.cells #[.string ⟨nm.toArray⟩,.int .i64 g1,.int .i64 g2,.int .i64 g3,.int .i64 g4,.slice As ns cs,.slice Ac nc cc] 42)) w') (_:Rws w' (fun _=>True) A' n' (rwL atoiO start s)),Calls Tryz.prog 10 #[.agg #[.int .i64 start,.slice A' n' c']] w' fun e w''=>e = .returned (.tuple #[.string ⟨s.toArray⟩,.int .i64 0])∧Ext w' w'':=fun h1 h2 A' n' c' w' hx hr=>by
  have h9:=zaY start A' n' c' (rwL atoiO start s) w' hr (HG.out.ext (HW0.out.trans hx))
  unfold PRowsR at h9
  rw [h1,h2] at h9
  exact h9
 have hPT:(∀(w':World) (_:Ext ((w.alloc (.cells #[.int .i64 sc,.slice A n c] 24)).alloc (.cells #[.string ⟨nm.toArray⟩,.int .i64 g1,.int .i64 g2,.int .i64 g3,.int .i64 g4,.slice As ns cs,.slice Ac nc cc] 42)) w'),Calls Tryz.prog 18 #[.string ⟨t.toArray⟩] w' fun e w''=>e = .returned (.tuple #[.agg #[.string ⟨#[]⟩,.int .i64 0,.int .i64 0,.int .i64 0,.int .i64 0,.slice none 0 0,.slice none 0 0],.int .i64 12])∧Ext w' w'') ∨
   ∃q:PSt,(∀(w':World) (_:Ext ((w.alloc (.cells #[.int .i64 sc,.slice A n c] 24)).alloc (.cells #[.string ⟨nm.toArray⟩,.int .i64 g1,.int .i64 g2,.int .i64 g3,.int .i64 g4,.slice As ns cs,.slice Ac nc cc] 42)) w'),Calls Tryz.prog 18 #[.string ⟨t.toArray⟩] w' fun e w''=>∃(As' Ac':Option Addr) (cs' cc':Nat),e = .returned (.tuple #[.agg #[.string ⟨q.nm.toArray⟩,.int .i64 q.g1,.int .i64 q.g2,.int .i64 q.g3,.int .i64 q.g4,.slice As' q.st.length cs',.slice Ac' q.se.length cc'],.int .i64 0])∧Ext w' w''∧Vec shStf w'' As' q.st.length q.st∧Secs w'' Ac' q.se.length q.se) ∧
    ∀(As' Ac':Option Addr) (cs' cc':Nat) (w':World) (_:Ext ((w.alloc (.cells #[.int .i64 sc,.slice A n c] 24)).alloc (.cells #[.string ⟨nm.toArray⟩,.int .i64 g1,.int .i64 g2,.int .i64 g3,.int .i64 g4,.slice As ns cs,.slice Ac nc cc] 42)) w') (_:Vec shStf w' As' q.st.length q.st) (_:Secs w' Ac' q.se.length q.se),Calls Tryz.prog 16 #[.agg #[.string ⟨q.nm.toArray⟩,.int .i64 q.g1,.int .i64 q.g2,.int .i64 q.g3,.int .i64 q.g4,.slice As' q.st.length cs',.slice Ac' q.se.length cc']] w' fun e w''=>e = .returned (.tuple #[.string ⟨t.toArray⟩,.int .i64 0])∧Ext w' w'':=by
  cases h:patP atoiO gerr t with
  | none =>
   refine .inl fun w' hx=>(za4 t (by omega) w' (HG.out.ext (HW0.out.trans hx))).mono ?_
   rintro e w'' ⟨h1,⟨-,rfl⟩ | ⟨p,_,_,_,_,h2, -⟩⟩
   ·exact ⟨rfl,h1⟩
   ·rw [h] at h2;cases h2
  | some q =>
   obtain ⟨f1,f2,f3⟩:=(zcT zeM zbe).1 h
   obtain ⟨k1,k2⟩:=zf2.1 ⟨f1,f2,f3⟩
   obtain ⟨b1,b2,b3,b4,b5⟩:=zi5 f2
   refine .inr ⟨q,fun w' hx=>(za4 t (by omega) w' (HG.out.ext (HW0.out.trans hx))).mono ?_,fun As' Ac' cs' cc' w' hx hs hc=>?_⟩
   ·rintro e w'' ⟨h1,⟨h2, -⟩ | ⟨p,As',Ac',cs',cc',h2,rfl,h3,h4, -⟩⟩
    ·rw [h] at h2;cases h2
    ·rw [h] at h2
     cases h2
     exact ⟨As',Ac',cs',cc',rfl,h1,h3,h4⟩
   ·have h9:=zbl q.nm q.g1 q.g2 q.g3 q.g4 As' q.st.length cs' q.st Ac' q.se.length cc' q.se w' hs hc b1 b2 b3 b4 b5 (HG.out.ext (HW0.out.trans hx)) (zbe _ _ _ _)
    unfold PtxR at h9
    rw [k1,k2] at h9
    exact h9
 refine ⟨hr,hs,hsm,hc,hg,h3,h4,hRW,hRA,hTX,hPB,fun w' hx=>(hRS w' hx).mono ?_,?_,hPT⟩
 ·rintro e w'' ⟨A',n',c',rfl,k1,k2⟩
  exact ⟨A',n',c',rfl,k1,k2.any⟩
 ·rcases hC with ⟨k1,k2,k3,k4⟩ | k1
  ·exact .inl ⟨k1,k2,fun A' n' c' w' hx hr=>hRX k3 k4 A' n' c' w' hx hr⟩
  ·exact .inr k1
end Go.Proofs.YtkneghkbgingdaaGreatDoor
/- PatternBack,one way. -/
namespace Go.Proofs.YtkneghkbgingdaaGreatDoor
set_option maxRecDepth 100000
open Go.ChangeShapes Go.WideShapes Go.ChangeAt Go.RowKit Go.Joins
theorem zoO (sc:Int) (A:Option Addr) (n c:Nat) (rows:List Ro) (nm:List UInt8) (g1 g2 g3 g4:Int) (As:Option Addr) (ns cs:Nat) (st:List Stf) (Ac:Option Addr) (nc cc:Nat) (se:List Sec) (start:Int) (s t:List UInt8) (w:World) (E3 S3:Int) (V1 V2:List UInt8) (L3:List Ro) (h:BkH sc A n c rows nm g1 g2 g3 g4 As ns cs st Ac nc cc se start s t w 0 0 E3 S3 V1 V2 L3) :
  Calls Tryz.prog 6 #[.agg #[.int .i64 sc,.slice A n c],.agg #[.string ⟨nm.toArray⟩,.int .i64 g1,.int .i64 g2,.int .i64 g3,.int .i64 g4,.slice As ns cs,.slice Ac nc cc],.int .i64 start,.string ⟨s.toArray⟩,.string ⟨t.toArray⟩] w fun e w'=>e = .returned (.bool true)∧Ext w w':=by
 have HR:=Za h.hr
 have HSV:=Za h.hs
 have HCV:=Za h.hc
 have HG:=Za h.hg
 have HBC:=Za ((BoxC.start w sc A n c).ext ((Zd _).alloc (.cells #[.string ⟨nm.toArray⟩,.int .i64 g1,.int .i64 g2,.int .i64 g3,.int .i64 g4,.slice As ns cs,.slice Ac nc cc] 42)))
 have HBP:=Za (BoxP.start (w.alloc (.cells #[.int .i64 sc,.slice A n c] 24)) nm g1 g2 g3 g4 As ns cs Ac nc cc)
 rw [ZI] at HBP
 have HW0:=Za (show Ext w ((w.alloc (.cells #[.int .i64 sc,.slice A n c] 24)).alloc (.cells #[.string ⟨nm.toArray⟩,.int .i64 g1,.int .i64 g2,.int .i64 g3,.int .i64 g4,.slice As ns cs,.slice Ac nc cc] 42)) from ((Zd w).alloc _).alloc _)
 have HE:=Za (Zd ((w.alloc (.cells #[.int .i64 sc,.slice A n c] 24)).alloc (.cells #[.string ⟨nm.toArray⟩,.int .i64 g1,.int .i64 g2,.int .i64 g3,.int .i64 g4,.slice As ns cs,.slice Ac nc cc] 42)))
 have HAL:=Za (fun (w':World) (hx:Ext ((w.alloc (.cells #[.int .i64 sc,.slice A n c] 24)).alloc (.cells #[.string ⟨nm.toArray⟩,.int .i64 g1,.int .i64 g2,.int .i64 g3,.int .i64 g4,.slice As ns cs,.slice Ac nc cc] 42)) w')=>zaS w' (HG.out.ext (HW0.out.trans hx)))
 have HGC:=Za (fun (w':World) (hx:Ext ((w.alloc (.cells #[.int .i64 sc,.slice A n c] 24)).alloc (.cells #[.string ⟨nm.toArray⟩,.int .i64 g1,.int .i64 g2,.int .i64 g3,.int .i64 g4,.slice As ns cs,.slice Ac nc cc] 42)) w')=>zaR sc A n c rows w' (HR.out.ext (HW0.out.trans hx)))
 have HGR:=Za (fun (w':World) (hx:Ext ((w.alloc (.cells #[.int .i64 sc,.slice A n c] 24)).alloc (.cells #[.string ⟨nm.toArray⟩,.int .i64 g1,.int .i64 g2,.int .i64 g3,.int .i64 g4,.slice As ns cs,.slice Ac nc cc] 42)) w')=>za3 nm g1 g2 g3 g4 As ns cs st Ac nc cc se w' (HSV.out.ext (HW0.out.trans hx)) h.hsm (HCV.out.ext (HW0.out.trans hx)))
 have HRW:=Za h.hRW
 have HRA:=Za (h.hRA rfl)
 have HTX:=Za h.hTX
 have HPB:=Za (h.hPB rfl)
 have HRS:=Za h.hRS
 have h3:=h.h3
 have h4:=h.h4
 have hC:=h.hC
 have hPT:=h.hPT
 clear h
 rcases hC with ⟨rfl,rfl,hRX⟩ | rfl
 ·have HRX:=Za hRX
  clear hRX
  rcases hPT with hPT | ⟨q,hPT,hQT⟩
  ·have HPT:=Za hPT
   clear hPT
   go_enter Tryz.func6,Tryz.ntmps6
   go_wp2_with (first
    | (go_at_call 29;((with_reducible refine (HAL.out _ (HE.out.trans zx)).mono ?_);rintro e w1 ⟨rfl,hq1⟩;replace HE:=Za (HE.out.trans (Zb zx hq1:Ext _ w1));clear hq1;obtain ⟨x0,x1,xz⟩:=(HBC.out.ext HE.out).facts;obtain ⟨y0,y1,y2,y3,y4,y5,y6,yz⟩:=(HBP.out.ext HE.out).facts))
    | (go_at_call 9;((with_reducible refine (HGC.out _ (HE.out.trans zx)).mono ?_);rintro e w2 ⟨⟨b,rfl⟩,hq2⟩;replace HE:=Za (HE.out.trans (Zb zx hq2:Ext _ w2));clear hq2;obtain ⟨x0,x1,xz⟩:=(HBC.out.ext HE.out).facts;obtain ⟨y0,y1,y2,y3,y4,y5,y6,yz⟩:=(HBP.out.ext HE.out).facts;cases b))
    | (go_at_call 15;((with_reducible refine (HGR.out _ (HE.out.trans zx)).mono ?_);rintro e w3 ⟨⟨b,rfl,hb⟩,hq3⟩;have HSM:=Za hb;clear hb;replace HE:=Za (HE.out.trans (Zb zx hq3:Ext _ w3));clear hq3;obtain ⟨x0,x1,xz⟩:=(HBC.out.ext HE.out).facts;obtain ⟨y0,y1,y2,y3,y4,y5,y6,yz⟩:=(HBP.out.ext HE.out).facts;cases b))
    | (go_at_call 10;(first | ((with_reducible refine (HRX.out _ _ _ _ (HE.out.trans zx) (HR9.out.ext zx)).mono ?_);rintro e w10 ⟨rfl,hq10⟩;obtain ⟨k0,k1,kz⟩:=(HX9.out.ext hq10).facts;replace HE:=Za (HE.out.trans (Zb zx hq10:Ext _ w10));clear hq10;obtain ⟨x0,x1,xz⟩:=(HBC.out.ext HE.out).facts;obtain ⟨y0,y1,y2,y3,y4,y5,y6,yz⟩:=(HBP.out.ext HE.out).facts) | ((with_reducible refine (HRW.out _ (HE.out.trans zx)).mono ?_);rintro e w4 ⟨rfl,hq4⟩;replace HE:=Za (HE.out.trans (Zb zx hq4:Ext _ w4));clear hq4;obtain ⟨x0,x1,xz⟩:=(HBC.out.ext HE.out).facts;obtain ⟨y0,y1,y2,y3,y4,y5,y6,yz⟩:=(HBP.out.ext HE.out).facts)))
    | (go_at_call 12;(first | ((with_reducible refine (HRA.out _ (HE.out.trans zx)).mono ?_);rintro e w5 ⟨A5,c5,rfl,hq5,hr5⟩;have HR5:=Za hr5;clear hr5;replace HE:=Za (HE.out.trans (Zb zx hq5:Ext _ w5));clear hq5;obtain ⟨x0,x1,xz⟩:=(HBC.out.ext HE.out).facts;obtain ⟨y0,y1,y2,y3,y4,y5,y6,yz⟩:=(HBP.out.ext HE.out).facts) | ((with_reducible refine (HRS.out _ (HE.out.trans zx)).mono ?_);rintro e w9 ⟨A9,n9,c9,rfl,hq9,hr9⟩;have HR9:=Za hr9;have HX9:=Za (BoxC.start w9 S3 A9 n9 c9);clear hr9;replace HE:=Za (HE.out.trans (Zb zx hq9:Ext _ w9));clear hq9;obtain ⟨x0,x1,xz⟩:=(HBC.out.ext HE.out).facts;obtain ⟨y0,y1,y2,y3,y4,y5,y6,yz⟩:=(HBP.out.ext HE.out).facts)))
    | (go_at_call 14;((with_reducible refine (zat sc sc A5 A n n c5 c rows rows _ (HR5.out.ext zx) (HR.out.ext (HW0.out.trans (HE.out.trans zx)))).mono ?_);rintro e w6 ⟨rfl,hq6⟩;rw [zax];replace HE:=Za (HE.out.trans (Zb zx hq6:Ext _ w6));clear hq6;obtain ⟨x0,x1,xz⟩:=(HBC.out.ext HE.out).facts;obtain ⟨y0,y1,y2,y3,y4,y5,y6,yz⟩:=(HBP.out.ext HE.out).facts))
    | (go_at_call 16;(first | ((with_reducible refine (HTX.out (HSM.out (by simp)) _ (HE.out.trans zx)).mono ?_);rintro e w7 ⟨rfl,hq7⟩;replace HE:=Za (HE.out.trans (Zb zx hq7:Ext _ w7));clear hq7;obtain ⟨x0,x1,xz⟩:=(HBC.out.ext HE.out).facts;obtain ⟨y0,y1,y2,y3,y4,y5,y6,yz⟩:=(HBP.out.ext HE.out).facts)))
    | (go_at_call 18;(first | ((with_reducible refine (HPB.out _ (HE.out.trans zx)).mono ?_);rintro e w8 ⟨As8,Ac8,cs8,cc8,rfl,hq8,hs8,hc8⟩;have HS8:=Za hs8;have HC8:=Za hc8;clear hs8 hc8;replace HE:=Za (HE.out.trans (Zb zx hq8:Ext _ w8));clear hq8;obtain ⟨x0,x1,xz⟩:=(HBC.out.ext HE.out).facts;obtain ⟨y0,y1,y2,y3,y4,y5,y6,yz⟩:=(HBP.out.ext HE.out).facts) | ((with_reducible refine (HPT.out _ (HE.out.trans zx)).mono ?_);rintro e w12 ⟨rfl,hq12⟩;replace HE:=Za (HE.out.trans (Zb zx hq12:Ext _ w12));clear hq12;obtain ⟨x0,x1,xz⟩:=(HBC.out.ext HE.out).facts;obtain ⟨y0,y1,y2,y3,y4,y5,y6,yz⟩:=(HBP.out.ext HE.out).facts)))
    | (go_at_call 20;((with_reducible refine (zaZ nm g1 g2 g3 g4 As8 As ns cs8 cs st Ac8 Ac nc cc8 cc se _ (HS8.out.ext zx) (HC8.out.ext zx) (HSV.out.ext (HW0.out.trans (HE.out.trans zx))) (HCV.out.ext (HW0.out.trans (HE.out.trans zx))) (zbc (HSM.out (by simp)))).mono ?_);rintro e w11 ⟨rfl,hq11⟩;replace HE:=Za (HE.out.trans (Zb zx hq11:Ext _ w11));clear hq11;obtain ⟨x0,x1,xz⟩:=(HBC.out.ext HE.out).facts;obtain ⟨y0,y1,y2,y3,y4,y5,y6,yz⟩:=(HBP.out.ext HE.out).facts)))
   all_goals (go_ret;exact ⟨by first | rfl | simp,HW0.out.trans (HE.out.trans zx)⟩)
  ·have HPT:=Za hPT
   have HQT:=Za hQT
   clear hPT hQT
   go_enter Tryz.func6,Tryz.ntmps6
   go_wp2_with (first
    | (go_at_call 29;((with_reducible refine (HAL.out _ (HE.out.trans zx)).mono ?_);rintro e w1 ⟨rfl,hq1⟩;replace HE:=Za (HE.out.trans (Zb zx hq1:Ext _ w1));clear hq1;obtain ⟨x0,x1,xz⟩:=(HBC.out.ext HE.out).facts;obtain ⟨y0,y1,y2,y3,y4,y5,y6,yz⟩:=(HBP.out.ext HE.out).facts))
    | (go_at_call 9;((with_reducible refine (HGC.out _ (HE.out.trans zx)).mono ?_);rintro e w2 ⟨⟨b,rfl⟩,hq2⟩;replace HE:=Za (HE.out.trans (Zb zx hq2:Ext _ w2));clear hq2;obtain ⟨x0,x1,xz⟩:=(HBC.out.ext HE.out).facts;obtain ⟨y0,y1,y2,y3,y4,y5,y6,yz⟩:=(HBP.out.ext HE.out).facts;cases b))
    | (go_at_call 15;((with_reducible refine (HGR.out _ (HE.out.trans zx)).mono ?_);rintro e w3 ⟨⟨b,rfl,hb⟩,hq3⟩;have HSM:=Za hb;clear hb;replace HE:=Za (HE.out.trans (Zb zx hq3:Ext _ w3));clear hq3;obtain ⟨x0,x1,xz⟩:=(HBC.out.ext HE.out).facts;obtain ⟨y0,y1,y2,y3,y4,y5,y6,yz⟩:=(HBP.out.ext HE.out).facts;cases b))
    | (go_at_call 10;(first | ((with_reducible refine (HRX.out _ _ _ _ (HE.out.trans zx) (HR9.out.ext zx)).mono ?_);rintro e w10 ⟨rfl,hq10⟩;obtain ⟨k0,k1,kz⟩:=(HX9.out.ext hq10).facts;replace HE:=Za (HE.out.trans (Zb zx hq10:Ext _ w10));clear hq10;obtain ⟨x0,x1,xz⟩:=(HBC.out.ext HE.out).facts;obtain ⟨y0,y1,y2,y3,y4,y5,y6,yz⟩:=(HBP.out.ext HE.out).facts) | ((with_reducible refine (HRW.out _ (HE.out.trans zx)).mono ?_);rintro e w4 ⟨rfl,hq4⟩;replace HE:=Za (HE.out.trans (Zb zx hq4:Ext _ w4));clear hq4;obtain ⟨x0,x1,xz⟩:=(HBC.out.ext HE.out).facts;obtain ⟨y0,y1,y2,y3,y4,y5,y6,yz⟩:=(HBP.out.ext HE.out).facts)))
    | (go_at_call 12;(first | ((with_reducible refine (HRA.out _ (HE.out.trans zx)).mono ?_);rintro e w5 ⟨A5,c5,rfl,hq5,hr5⟩;have HR5:=Za hr5;clear hr5;replace HE:=Za (HE.out.trans (Zb zx hq5:Ext _ w5));clear hq5;obtain ⟨x0,x1,xz⟩:=(HBC.out.ext HE.out).facts;obtain ⟨y0,y1,y2,y3,y4,y5,y6,yz⟩:=(HBP.out.ext HE.out).facts) | ((with_reducible refine (HRS.out _ (HE.out.trans zx)).mono ?_);rintro e w9 ⟨A9,n9,c9,rfl,hq9,hr9⟩;have HR9:=Za hr9;have HX9:=Za (BoxC.start w9 S3 A9 n9 c9);clear hr9;replace HE:=Za (HE.out.trans (Zb zx hq9:Ext _ w9));clear hq9;obtain ⟨x0,x1,xz⟩:=(HBC.out.ext HE.out).facts;obtain ⟨y0,y1,y2,y3,y4,y5,y6,yz⟩:=(HBP.out.ext HE.out).facts)))
    | (go_at_call 14;((with_reducible refine (zat sc sc A5 A n n c5 c rows rows _ (HR5.out.ext zx) (HR.out.ext (HW0.out.trans (HE.out.trans zx)))).mono ?_);rintro e w6 ⟨rfl,hq6⟩;rw [zax];replace HE:=Za (HE.out.trans (Zb zx hq6:Ext _ w6));clear hq6;obtain ⟨x0,x1,xz⟩:=(HBC.out.ext HE.out).facts;obtain ⟨y0,y1,y2,y3,y4,y5,y6,yz⟩:=(HBP.out.ext HE.out).facts))
    | (go_at_call 16;(first | ((with_reducible refine (HQT.out _ _ _ _ _ (HE.out.trans zx) (HS12.out.ext zx) (HC12.out.ext zx)).mono ?_);rintro e w13 ⟨rfl,hq13⟩;replace HE:=Za (HE.out.trans (Zb zx hq13:Ext _ w13));clear hq13;obtain ⟨x0,x1,xz⟩:=(HBC.out.ext HE.out).facts;obtain ⟨y0,y1,y2,y3,y4,y5,y6,yz⟩:=(HBP.out.ext HE.out).facts) | ((with_reducible refine (HTX.out (HSM.out (by simp)) _ (HE.out.trans zx)).mono ?_);rintro e w7 ⟨rfl,hq7⟩;replace HE:=Za (HE.out.trans (Zb zx hq7:Ext _ w7));clear hq7;obtain ⟨x0,x1,xz⟩:=(HBC.out.ext HE.out).facts;obtain ⟨y0,y1,y2,y3,y4,y5,y6,yz⟩:=(HBP.out.ext HE.out).facts)))
    | (go_at_call 18;(first | ((with_reducible refine (HPB.out _ (HE.out.trans zx)).mono ?_);rintro e w8 ⟨As8,Ac8,cs8,cc8,rfl,hq8,hs8,hc8⟩;have HS8:=Za hs8;have HC8:=Za hc8;clear hs8 hc8;replace HE:=Za (HE.out.trans (Zb zx hq8:Ext _ w8));clear hq8;obtain ⟨x0,x1,xz⟩:=(HBC.out.ext HE.out).facts;obtain ⟨y0,y1,y2,y3,y4,y5,y6,yz⟩:=(HBP.out.ext HE.out).facts) | ((with_reducible refine (HPT.out _ (HE.out.trans zx)).mono ?_);rintro e w12 ⟨As12,Ac12,cs12,cc12,rfl,hq12,hs12,hc12⟩;have HS12:=Za hs12;have HC12:=Za hc12;clear hs12 hc12;replace HE:=Za (HE.out.trans (Zb zx hq12:Ext _ w12));clear hq12;obtain ⟨x0,x1,xz⟩:=(HBC.out.ext HE.out).facts;obtain ⟨y0,y1,y2,y3,y4,y5,y6,yz⟩:=(HBP.out.ext HE.out).facts)))
    | (go_at_call 20;((with_reducible refine (zaZ nm g1 g2 g3 g4 As8 As ns cs8 cs st Ac8 Ac nc cc8 cc se _ (HS8.out.ext zx) (HC8.out.ext zx) (HSV.out.ext (HW0.out.trans (HE.out.trans zx))) (HCV.out.ext (HW0.out.trans (HE.out.trans zx))) (zbc (HSM.out (by simp)))).mono ?_);rintro e w11 ⟨rfl,hq11⟩;replace HE:=Za (HE.out.trans (Zb zx hq11:Ext _ w11));clear hq11;obtain ⟨x0,x1,xz⟩:=(HBC.out.ext HE.out).facts;obtain ⟨y0,y1,y2,y3,y4,y5,y6,yz⟩:=(HBP.out.ext HE.out).facts)))
   all_goals (go_ret;exact ⟨by first | rfl | simp,HW0.out.trans (HE.out.trans zx)⟩)
 ·skip
  rcases hPT with hPT | ⟨q,hPT,hQT⟩
  ·have HPT:=Za hPT
   clear hPT
   go_enter Tryz.func6,Tryz.ntmps6
   go_wp2_with (first
    | (go_at_call 29;((with_reducible refine (HAL.out _ (HE.out.trans zx)).mono ?_);rintro e w1 ⟨rfl,hq1⟩;replace HE:=Za (HE.out.trans (Zb zx hq1:Ext _ w1));clear hq1;obtain ⟨x0,x1,xz⟩:=(HBC.out.ext HE.out).facts;obtain ⟨y0,y1,y2,y3,y4,y5,y6,yz⟩:=(HBP.out.ext HE.out).facts))
    | (go_at_call 9;((with_reducible refine (HGC.out _ (HE.out.trans zx)).mono ?_);rintro e w2 ⟨⟨b,rfl⟩,hq2⟩;replace HE:=Za (HE.out.trans (Zb zx hq2:Ext _ w2));clear hq2;obtain ⟨x0,x1,xz⟩:=(HBC.out.ext HE.out).facts;obtain ⟨y0,y1,y2,y3,y4,y5,y6,yz⟩:=(HBP.out.ext HE.out).facts;cases b))
    | (go_at_call 15;((with_reducible refine (HGR.out _ (HE.out.trans zx)).mono ?_);rintro e w3 ⟨⟨b,rfl,hb⟩,hq3⟩;have HSM:=Za hb;clear hb;replace HE:=Za (HE.out.trans (Zb zx hq3:Ext _ w3));clear hq3;obtain ⟨x0,x1,xz⟩:=(HBC.out.ext HE.out).facts;obtain ⟨y0,y1,y2,y3,y4,y5,y6,yz⟩:=(HBP.out.ext HE.out).facts;cases b))
    | (go_at_call 10;(first | ((with_reducible refine (HRW.out _ (HE.out.trans zx)).mono ?_);rintro e w4 ⟨rfl,hq4⟩;replace HE:=Za (HE.out.trans (Zb zx hq4:Ext _ w4));clear hq4;obtain ⟨x0,x1,xz⟩:=(HBC.out.ext HE.out).facts;obtain ⟨y0,y1,y2,y3,y4,y5,y6,yz⟩:=(HBP.out.ext HE.out).facts)))
    | (go_at_call 12;(first | ((with_reducible refine (HRA.out _ (HE.out.trans zx)).mono ?_);rintro e w5 ⟨A5,c5,rfl,hq5,hr5⟩;have HR5:=Za hr5;clear hr5;replace HE:=Za (HE.out.trans (Zb zx hq5:Ext _ w5));clear hq5;obtain ⟨x0,x1,xz⟩:=(HBC.out.ext HE.out).facts;obtain ⟨y0,y1,y2,y3,y4,y5,y6,yz⟩:=(HBP.out.ext HE.out).facts) | ((with_reducible refine (HRS.out _ (HE.out.trans zx)).mono ?_);rintro e w9 ⟨A9,n9,c9,rfl,hq9,hr9⟩;have HR9:=Za hr9;have HX9:=Za (BoxC.start w9 S3 A9 n9 c9);clear hr9;replace HE:=Za (HE.out.trans (Zb zx hq9:Ext _ w9));clear hq9;obtain ⟨x0,x1,xz⟩:=(HBC.out.ext HE.out).facts;obtain ⟨y0,y1,y2,y3,y4,y5,y6,yz⟩:=(HBP.out.ext HE.out).facts)))
    | (go_at_call 14;((with_reducible refine (zat sc sc A5 A n n c5 c rows rows _ (HR5.out.ext zx) (HR.out.ext (HW0.out.trans (HE.out.trans zx)))).mono ?_);rintro e w6 ⟨rfl,hq6⟩;rw [zax];replace HE:=Za (HE.out.trans (Zb zx hq6:Ext _ w6));clear hq6;obtain ⟨x0,x1,xz⟩:=(HBC.out.ext HE.out).facts;obtain ⟨y0,y1,y2,y3,y4,y5,y6,yz⟩:=(HBP.out.ext HE.out).facts))
    | (go_at_call 16;(first | ((with_reducible refine (HTX.out (HSM.out (by simp)) _ (HE.out.trans zx)).mono ?_);rintro e w7 ⟨rfl,hq7⟩;replace HE:=Za (HE.out.trans (Zb zx hq7:Ext _ w7));clear hq7;obtain ⟨x0,x1,xz⟩:=(HBC.out.ext HE.out).facts;obtain ⟨y0,y1,y2,y3,y4,y5,y6,yz⟩:=(HBP.out.ext HE.out).facts)))
    | (go_at_call 18;(first | ((with_reducible refine (HPB.out _ (HE.out.trans zx)).mono ?_);rintro e w8 ⟨As8,Ac8,cs8,cc8,rfl,hq8,hs8,hc8⟩;have HS8:=Za hs8;have HC8:=Za hc8;clear hs8 hc8;replace HE:=Za (HE.out.trans (Zb zx hq8:Ext _ w8));clear hq8;obtain ⟨x0,x1,xz⟩:=(HBC.out.ext HE.out).facts;obtain ⟨y0,y1,y2,y3,y4,y5,y6,yz⟩:=(HBP.out.ext HE.out).facts) | ((with_reducible refine (HPT.out _ (HE.out.trans zx)).mono ?_);rintro e w12 ⟨rfl,hq12⟩;replace HE:=Za (HE.out.trans (Zb zx hq12:Ext _ w12));clear hq12;obtain ⟨x0,x1,xz⟩:=(HBC.out.ext HE.out).facts;obtain ⟨y0,y1,y2,y3,y4,y5,y6,yz⟩:=(HBP.out.ext HE.out).facts)))
    | (go_at_call 20;((with_reducible refine (zaZ nm g1 g2 g3 g4 As8 As ns cs8 cs st Ac8 Ac nc cc8 cc se _ (HS8.out.ext zx) (HC8.out.ext zx) (HSV.out.ext (HW0.out.trans (HE.out.trans zx))) (HCV.out.ext (HW0.out.trans (HE.out.trans zx))) (zbc (HSM.out (by simp)))).mono ?_);rintro e w11 ⟨rfl,hq11⟩;replace HE:=Za (HE.out.trans (Zb zx hq11:Ext _ w11));clear hq11;obtain ⟨x0,x1,xz⟩:=(HBC.out.ext HE.out).facts;obtain ⟨y0,y1,y2,y3,y4,y5,y6,yz⟩:=(HBP.out.ext HE.out).facts)))
   all_goals (go_ret;exact ⟨by first | rfl | simp,HW0.out.trans (HE.out.trans zx)⟩)
  ·have HPT:=Za hPT
   have HQT:=Za hQT
   clear hPT hQT
   go_enter Tryz.func6,Tryz.ntmps6
   go_wp2_with (first
    | (go_at_call 29;((with_reducible refine (HAL.out _ (HE.out.trans zx)).mono ?_);rintro e w1 ⟨rfl,hq1⟩;replace HE:=Za (HE.out.trans (Zb zx hq1:Ext _ w1));clear hq1;obtain ⟨x0,x1,xz⟩:=(HBC.out.ext HE.out).facts;obtain ⟨y0,y1,y2,y3,y4,y5,y6,yz⟩:=(HBP.out.ext HE.out).facts))
    | (go_at_call 9;((with_reducible refine (HGC.out _ (HE.out.trans zx)).mono ?_);rintro e w2 ⟨⟨b,rfl⟩,hq2⟩;replace HE:=Za (HE.out.trans (Zb zx hq2:Ext _ w2));clear hq2;obtain ⟨x0,x1,xz⟩:=(HBC.out.ext HE.out).facts;obtain ⟨y0,y1,y2,y3,y4,y5,y6,yz⟩:=(HBP.out.ext HE.out).facts;cases b))
    | (go_at_call 15;((with_reducible refine (HGR.out _ (HE.out.trans zx)).mono ?_);rintro e w3 ⟨⟨b,rfl,hb⟩,hq3⟩;have HSM:=Za hb;clear hb;replace HE:=Za (HE.out.trans (Zb zx hq3:Ext _ w3));clear hq3;obtain ⟨x0,x1,xz⟩:=(HBC.out.ext HE.out).facts;obtain ⟨y0,y1,y2,y3,y4,y5,y6,yz⟩:=(HBP.out.ext HE.out).facts;cases b))
    | (go_at_call 10;(first | ((with_reducible refine (HRW.out _ (HE.out.trans zx)).mono ?_);rintro e w4 ⟨rfl,hq4⟩;replace HE:=Za (HE.out.trans (Zb zx hq4:Ext _ w4));clear hq4;obtain ⟨x0,x1,xz⟩:=(HBC.out.ext HE.out).facts;obtain ⟨y0,y1,y2,y3,y4,y5,y6,yz⟩:=(HBP.out.ext HE.out).facts)))
    | (go_at_call 12;(first | ((with_reducible refine (HRA.out _ (HE.out.trans zx)).mono ?_);rintro e w5 ⟨A5,c5,rfl,hq5,hr5⟩;have HR5:=Za hr5;clear hr5;replace HE:=Za (HE.out.trans (Zb zx hq5:Ext _ w5));clear hq5;obtain ⟨x0,x1,xz⟩:=(HBC.out.ext HE.out).facts;obtain ⟨y0,y1,y2,y3,y4,y5,y6,yz⟩:=(HBP.out.ext HE.out).facts) | ((with_reducible refine (HRS.out _ (HE.out.trans zx)).mono ?_);rintro e w9 ⟨A9,n9,c9,rfl,hq9,hr9⟩;have HR9:=Za hr9;have HX9:=Za (BoxC.start w9 S3 A9 n9 c9);clear hr9;replace HE:=Za (HE.out.trans (Zb zx hq9:Ext _ w9));clear hq9;obtain ⟨x0,x1,xz⟩:=(HBC.out.ext HE.out).facts;obtain ⟨y0,y1,y2,y3,y4,y5,y6,yz⟩:=(HBP.out.ext HE.out).facts)))
    | (go_at_call 14;((with_reducible refine (zat sc sc A5 A n n c5 c rows rows _ (HR5.out.ext zx) (HR.out.ext (HW0.out.trans (HE.out.trans zx)))).mono ?_);rintro e w6 ⟨rfl,hq6⟩;rw [zax];replace HE:=Za (HE.out.trans (Zb zx hq6:Ext _ w6));clear hq6;obtain ⟨x0,x1,xz⟩:=(HBC.out.ext HE.out).facts;obtain ⟨y0,y1,y2,y3,y4,y5,y6,yz⟩:=(HBP.out.ext HE.out).facts))
    | (go_at_call 16;(first | ((with_reducible refine (HQT.out _ _ _ _ _ (HE.out.trans zx) (HS12.out.ext zx) (HC12.out.ext zx)).mono ?_);rintro e w13 ⟨rfl,hq13⟩;replace HE:=Za (HE.out.trans (Zb zx hq13:Ext _ w13));clear hq13;obtain ⟨x0,x1,xz⟩:=(HBC.out.ext HE.out).facts;obtain ⟨y0,y1,y2,y3,y4,y5,y6,yz⟩:=(HBP.out.ext HE.out).facts) | ((with_reducible refine (HTX.out (HSM.out (by simp)) _ (HE.out.trans zx)).mono ?_);rintro e w7 ⟨rfl,hq7⟩;replace HE:=Za (HE.out.trans (Zb zx hq7:Ext _ w7));clear hq7;obtain ⟨x0,x1,xz⟩:=(HBC.out.ext HE.out).facts;obtain ⟨y0,y1,y2,y3,y4,y5,y6,yz⟩:=(HBP.out.ext HE.out).facts)))
    | (go_at_call 18;(first | ((with_reducible refine (HPB.out _ (HE.out.trans zx)).mono ?_);rintro e w8 ⟨As8,Ac8,cs8,cc8,rfl,hq8,hs8,hc8⟩;have HS8:=Za hs8;have HC8:=Za hc8;clear hs8 hc8;replace HE:=Za (HE.out.trans (Zb zx hq8:Ext _ w8));clear hq8;obtain ⟨x0,x1,xz⟩:=(HBC.out.ext HE.out).facts;obtain ⟨y0,y1,y2,y3,y4,y5,y6,yz⟩:=(HBP.out.ext HE.out).facts) | ((with_reducible refine (HPT.out _ (HE.out.trans zx)).mono ?_);rintro e w12 ⟨As12,Ac12,cs12,cc12,rfl,hq12,hs12,hc12⟩;have HS12:=Za hs12;have HC12:=Za hc12;clear hs12 hc12;replace HE:=Za (HE.out.trans (Zb zx hq12:Ext _ w12));clear hq12;obtain ⟨x0,x1,xz⟩:=(HBC.out.ext HE.out).facts;obtain ⟨y0,y1,y2,y3,y4,y5,y6,yz⟩:=(HBP.out.ext HE.out).facts)))
    | (go_at_call 20;((with_reducible refine (zaZ nm g1 g2 g3 g4 As8 As ns cs8 cs st Ac8 Ac nc cc8 cc se _ (HS8.out.ext zx) (HC8.out.ext zx) (HSV.out.ext (HW0.out.trans (HE.out.trans zx))) (HCV.out.ext (HW0.out.trans (HE.out.trans zx))) (zbc (HSM.out (by simp)))).mono ?_);rintro e w11 ⟨rfl,hq11⟩;replace HE:=Za (HE.out.trans (Zb zx hq11:Ext _ w11));clear hq11;obtain ⟨x0,x1,xz⟩:=(HBC.out.ext HE.out).facts;obtain ⟨y0,y1,y2,y3,y4,y5,y6,yz⟩:=(HBP.out.ext HE.out).facts)))
   all_goals (go_ret;exact ⟨by first | rfl | simp,HW0.out.trans (HE.out.trans zx)⟩)
end Go.Proofs.YtkneghkbgingdaaGreatDoor
