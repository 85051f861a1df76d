/- The limits of patterns, rows that come again, and errors. -/
import Derived.Test.YtkneghkbgingdaaGreatDoorK50
import Derived.Deep.RegionLawGrows
import Derived.Test.YtkneghkbgingdaaGreatDoorCards
namespace Go.Proofs.YtkneghkbgingdaaGreatDoor
set_option maxHeartbeats 16000000
set_option maxRecDepth 100000
open Go.ChangeShapes Go.WideShapes Go.ChangeAt Go.RowKit Go.Joins
theorem wr_0_f (w:World) (hg:Glob w):Calls Tryz.prog 21 #[.string ⟨#[]⟩,.int .i64 0] w fun e w'=>e = .returned (.bool true)∧Ext w w':=zbs (s:=[]) (k:=0) zpi (by decide) w hg
theorem wr_1_f (w:World) (hg:Glob w):Calls Tryz.prog 21 #[.string ⟨#[102,114,111,110,116,32,107,42,52,10,97,103,97,105,110,32,49,32,57,57,10]⟩,.int .i64 100] w fun e w'=>e = .returned (.bool true)∧Ext w w':=zbs (s:=[102,114,111,110,116,32,107,42,52,10,97,103,97,105,110,32,49,32,57,57,10]) (k:=100) zpj (by decide) w hg
theorem wr_2_f (w:World) (hg:Glob w):Calls Tryz.prog 21 #[.string ⟨#[102,114,111,110,116,32,107,42,52,10,98,97,99,107,32,112,42,52,10,97,103,97,105,110,32,49,32,50,10,102,114,111,110,116,32,107,42,52,10]⟩,.int .i64 5] w fun e w'=>e = .returned (.bool true)∧Ext w w':=zbs (s:=[102,114,111,110,116,32,107,42,52,10,98,97,99,107,32,112,42,52,10,97,103,97,105,110,32,49,32,50,10,102,114,111,110,116,32,107,42,52,10]) (k:=5) zpk (by decide) w hg
theorem wr_3_f (w:World) (hg:Glob w):Calls Tryz.prog 21 #[.string ⟨#[102,114,111,110,116,32,107,42,52,10,97,103,97,105,110,32,49,32,51,10]⟩,.int .i64 4] w fun e w'=>e = .returned (.bool true)∧Ext w w':=zbs (s:=[102,114,111,110,116,32,107,42,52,10,97,103,97,105,110,32,49,32,51,10]) (k:=4) zpl (by decide) w hg
theorem wr_4_f (w:World) (hg:Glob w):Calls Tryz.prog 21 #[.string ⟨#[102,114,111,110,116,32,107,111,52,10,98,97,99,107,10,97,103,97,105,110,32,49,32,49,10]⟩,.int .i64 3] w fun e w'=>e = .returned (.bool true)∧Ext w w':=zbs (s:=[102,114,111,110,116,32,107,111,52,10,98,97,99,107,10,97,103,97,105,110,32,49,32,49,10]) (k:=3) zpm (by decide) w hg
theorem wr_5_f (w:World) (hg:Glob w):Calls Tryz.prog 21 #[.string ⟨#[102,114,111,110,116,32,40,107,32,112,41,42,50,10,98,97,99,107,32,112,115,42,52,10,97,103,97,105,110,32,50,32,50,10,102,114,111,110,116,32,107,42,52,10]⟩,.int .i64 7] w fun e w'=>e = .returned (.bool true)∧Ext w w':=zbs (s:=[102,114,111,110,116,32,40,107,32,112,41,42,50,10,98,97,99,107,32,112,115,42,52,10,97,103,97,105,110,32,50,32,50,10,102,114,111,110,116,32,107,42,52,10]) (k:=7) zpn (by decide) w hg
theorem rf_0_f (w:World) (hg:Glob w):Calls Tryz.prog 22 #[.string ⟨#[102,114,111,110,116,32,107,42,52]⟩] w fun e w'=>e = .returned (.bool true)∧Ext w w':=zan (s:=[102,114,111,110,116,32,107,42,52]) zo7 (by decide) w hg
theorem rf_1_f (w:World) (hg:Glob w):Calls Tryz.prog 22 #[.string ⟨#[102,114,111,110,116,32,107,32,107,32,107,32,107,10]⟩] w fun e w'=>e = .returned (.bool true)∧Ext w w':=zan (s:=[102,114,111,110,116,32,107,32,107,32,107,32,107,10]) zo8 (by decide) w hg
theorem rf_2_f (w:World) (hg:Glob w):Calls Tryz.prog 22 #[.string ⟨#[102,114,111,110,116,32,107,42,53,10]⟩] w fun e w'=>e = .returned (.bool true)∧Ext w w':=zan (s:=[102,114,111,110,116,32,107,42,53,10]) zo9 (by decide) w hg
theorem rf_3_f (w:World) (hg:Glob w):Calls Tryz.prog 22 #[.string ⟨#[97,103,97,105,110,32,49,32,49,10]⟩] w fun e w'=>e = .returned (.bool true)∧Ext w w':=zan (s:=[97,103,97,105,110,32,49,32,49,10]) zpa (by decide) w hg
theorem rf_4_f (w:World) (hg:Glob w):Calls Tryz.prog 22 #[.string ⟨#[102,114,111,110,116,32,107,42,52,10,102,114,111,110,116,32,107,42,52,10]⟩] w fun e w'=>e = .returned (.bool true)∧Ext w w':=zan (s:=[102,114,111,110,116,32,107,42,52,10,102,114,111,110,116,32,107,42,52,10]) zpb (by decide) w hg
theorem rf_5_f (w:World) (hg:Glob w):Calls Tryz.prog 22 #[.string ⟨#[102,114,111,110,116,32,107,42,52,10,97,103,97,105,110,32,49,32,48,10]⟩] w fun e w'=>e = .returned (.bool true)∧Ext w w':=zan (s:=[102,114,111,110,116,32,107,42,52,10,97,103,97,105,110,32,49,32,48,10]) zpc (by decide) w hg
theorem rf_6_f (w:World) (hg:Glob w):Calls Tryz.prog 22 #[.string ⟨#[102,114,111,110,116,32,107,42,52,10,97,103,97,105,110,32,49,32,49,48,48,10]⟩] w fun e w'=>e = .returned (.bool true)∧Ext w w':=zan (s:=[102,114,111,110,116,32,107,42,52,10,97,103,97,105,110,32,49,32,49,48,48,10]) zpd (by decide) w hg
theorem rf_7_f (w:World) (hg:Glob w):Calls Tryz.prog 22 #[.string ⟨#[102,114,111,110,116,32,107,42,52,10,97,103,97,105,110,32,50,32,49,10]⟩] w fun e w'=>e = .returned (.bool true)∧Ext w w':=zan (s:=[102,114,111,110,116,32,107,42,52,10,97,103,97,105,110,32,50,32,49,10]) zpe (by decide) w hg
theorem rf_8_f (w:World) (hg:Glob w):Calls Tryz.prog 22 #[.string ⟨#[102,114,111,110,116,32,107,42,52,10,97,103,97,105,110,32,49,32,49,10,97,103,97,105,110,32,49,32,49,10]⟩] w fun e w'=>e = .returned (.bool true)∧Ext w w':=zan (s:=[102,114,111,110,116,32,107,42,52,10,97,103,97,105,110,32,49,32,49,10,97,103,97,105,110,32,49,32,49,10]) zpf (by decide) w hg
theorem rf_9_f (w:World) (hg:Glob w):Calls Tryz.prog 22 #[.string ⟨#[102,114,111,110,116,32,32,107,42,52,10]⟩] w fun e w'=>e = .returned (.bool true)∧Ext w w':=zan (s:=[102,114,111,110,116,32,32,107,42,52,10]) zpg (by decide) w hg
theorem rf_10_f (w:World) (hg:Glob w):Calls Tryz.prog 22 #[.string ⟨#[102,114,111,110,116,32,10]⟩] w fun e w'=>e = .returned (.bool true)∧Ext w w':=zan (s:=[102,114,111,110,116,32,10]) zop (by decide) w hg
theorem rf_11_f (w:World) (hg:Glob w):Calls Tryz.prog 22 #[.string ⟨#[70,114,111,110,116,32,107,42,52,10]⟩] w fun e w'=>e = .returned (.bool true)∧Ext w w':=zan (s:=[70,114,111,110,116,32,107,42,52,10]) zoq (by decide) w hg
theorem rf_12_f (w:World) (hg:Glob w):Calls Tryz.prog 22 #[.string ⟨#[102,114,111,110,116,32,107,42,52,10,98,97,99,107,32,112,42,52,10,102,114,111,110,116,32,107,42,52,10,98,97,99,107,32,112,42,52,10]⟩] w fun e w'=>e = .returned (.bool true)∧Ext w w':=zan (s:=[102,114,111,110,116,32,107,42,52,10,98,97,99,107,32,112,42,52,10,102,114,111,110,116,32,107,42,52,10,98,97,99,107,32,112,42,52,10]) zor (by decide) w hg
theorem rf_13_f (w:World) (hg:Glob w):Calls Tryz.prog 22 #[.string ⟨#[102,114,111,110,116,32,107,42,52,10,97,103,97,105,110,32,48,49,32,49,10]⟩] w fun e w'=>e = .returned (.bool true)∧Ext w w':=zan (s:=[102,114,111,110,116,32,107,42,52,10,97,103,97,105,110,32,48,49,32,49,10]) zos (by decide) w hg
theorem rf_14_f (w:World) (hg:Glob w):Calls Tryz.prog 22 #[.string ⟨#[10]⟩] w fun e w'=>e = .returned (.bool true)∧Ext w w':=zan (s:=[10]) zot (by decide) w hg
theorem rf_15_f (w:World) (hg:Glob w):Calls Tryz.prog 22 #[.string ⟨#[102,114,111,110,116,32,107,42,52,10,97,103,97,105,110,32,51,32,49,10]⟩] w fun e w'=>e = .returned (.bool true)∧Ext w w':=zan (s:=[102,114,111,110,116,32,107,42,52,10,97,103,97,105,110,32,51,32,49,10]) zou (by decide) w hg
theorem no_0_f (w:World) (hg:Glob w):Calls Tryz.prog 23 #[.string ⟨#[]⟩] w fun e w'=>e = .returned (.bool true)∧Ext w w':=ziT (s:=[]) zoX (by decide) w hg
theorem no_1_f (w:World) (hg:Glob w):Calls Tryz.prog 23 #[.string ⟨#[112,97,116,116,101,114,110,32,97,10]⟩] w fun e w'=>e = .returned (.bool true)∧Ext w w':=ziT (s:=[112,97,116,116,101,114,110,32,97,10]) zoY (by decide) w hg
theorem no_2_f (w:World) (hg:Glob w):Calls Tryz.prog 23 #[.string ⟨#[112,97,116,116,101,114,110,32,97,10,103,97,117,103,101,32,49,32,49,32,49,32,49,10]⟩] w fun e w'=>e = .returned (.bool true)∧Ext w w':=ziT (s:=[112,97,116,116,101,114,110,32,97,10,103,97,117,103,101,32,49,32,49,32,49,32,49,10]) zoZ (by decide) w hg
theorem no_3_f (w:World) (hg:Glob w):Calls Tryz.prog 23 #[.string ⟨#[112,97,116,116,101,114,110,32,97,10,103,97,117,103,101,32,49,32,49,32,49,10,115,101,99,116,105,111,110,32,98,32,52,10]⟩] w fun e w'=>e = .returned (.bool true)∧Ext w w':=ziT (s:=[112,97,116,116,101,114,110,32,97,10,103,97,117,103,101,32,49,32,49,32,49,10,115,101,99,116,105,111,110,32,98,32,52,10]) zo0 (by decide) w hg
theorem no_4_f (w:World) (hg:Glob w):Calls Tryz.prog 23 #[.string ⟨#[112,97,116,116,101,114,110,32,97,10,103,97,117,103,101,32,49,32,49,32,49,32,49,10,115,101,99,116,105,111,110,32,98,32,52,10,115,116,117,102,102,32,99,32,49,10]⟩] w fun e w'=>e = .returned (.bool true)∧Ext w w':=ziT (s:=[112,97,116,116,101,114,110,32,97,10,103,97,117,103,101,32,49,32,49,32,49,32,49,10,115,101,99,116,105,111,110,32,98,32,52,10,115,116,117,102,102,32,99,32,49,10]) zo1 (by decide) w hg
theorem no_5_f (w:World) (hg:Glob w):Calls Tryz.prog 23 #[.string ⟨#[112,97,116,116,101,114,110,32,65,10,103,97,117,103,101,32,49,32,49,32,49,32,49,10,115,101,99,116,105,111,110,32,98,32,52,10]⟩] w fun e w'=>e = .returned (.bool true)∧Ext w w':=ziT (s:=[112,97,116,116,101,114,110,32,65,10,103,97,117,103,101,32,49,32,49,32,49,32,49,10,115,101,99,116,105,111,110,32,98,32,52,10]) zo2 (by decide) w hg
theorem no_6_f (w:World) (hg:Glob w):Calls Tryz.prog 23 #[.string ⟨#[112,97,116,116,101,114,110,32,97,10,103,97,117,103,101,32,49,32,49,32,49,32,49,10,115,101,99,116,105,111,110,32,98,32,52,10,115,101,99,116,105,111,110,32,98,32,52,10]⟩] w fun e w'=>e = .returned (.bool true)∧Ext w w':=ziT (s:=[112,97,116,116,101,114,110,32,97,10,103,97,117,103,101,32,49,32,49,32,49,32,49,10,115,101,99,116,105,111,110,32,98,32,52,10,115,101,99,116,105,111,110,32,98,32,52,10]) zo3 (by decide) w hg
theorem no_7_f (w:World) (hg:Glob w):Calls Tryz.prog 23 #[.string ⟨#[112,97,116,116,101,114,110,32,97,10,103,97,117,103,101,32,49,32,49,32,49,32,49,10,115,116,117,102,102,32,99,32,48,10,115,101,99,116,105,111,110,32,98,32,52,10]⟩] w fun e w'=>e = .returned (.bool true)∧Ext w w':=ziT (s:=[112,97,116,116,101,114,110,32,97,10,103,97,117,103,101,32,49,32,49,32,49,32,49,10,115,116,117,102,102,32,99,32,48,10,115,101,99,116,105,111,110,32,98,32,52,10]) zo4 (by decide) w hg
theorem no_8_f (w:World) (hg:Glob w):Calls Tryz.prog 23 #[.string ⟨#[112,97,116,116,101,114,110,32,97,10,103,97,117,103,101,32,49,32,49,32,49,32,49,10,115,116,117,102,102,32,99,32,49,48,48,48,48,49,10,115,101,99,116,105,111,110,32,98,32,52,10]⟩] w fun e w'=>e = .returned (.bool true)∧Ext w w':=ziT (s:=[112,97,116,116,101,114,110,32,97,10,103,97,117,103,101,32,49,32,49,32,49,32,49,10,115,116,117,102,102,32,99,32,49,48,48,48,48,49,10,115,101,99,116,105,111,110,32,98,32,52,10]) zo5 (by decide) w hg
theorem no_9_f (w:World) (hg:Glob w):Calls Tryz.prog 23 #[.string ⟨#[112,97,116,116,101,114,110,32,97,10,103,97,117,103,101,32,49,32,49,32,49,32,49,10,115,101,99,116,105,111,110,32,98,32,50,48,49,10]⟩] w fun e w'=>e = .returned (.bool true)∧Ext w w':=ziT (s:=[112,97,116,116,101,114,110,32,97,10,103,97,117,103,101,32,49,32,49,32,49,32,49,10,115,101,99,116,105,111,110,32,98,32,50,48,49,10]) zo6 (by decide) w hg
theorem no_10_f (w:World) (hg:Glob w):Calls Tryz.prog 23 #[.string ⟨#[112,97,116,116,101,114,110,32,97,10,103,97,117,103,101,32,49,32,49,32,49,32,49,10,115,101,99,116,105,111,110,32,98,32,52,10,102,114,111,110,116,32,107,42,53,10]⟩] w fun e w'=>e = .returned (.bool true)∧Ext w w':=ziT (s:=[112,97,116,116,101,114,110,32,97,10,103,97,117,103,101,32,49,32,49,32,49,32,49,10,115,101,99,116,105,111,110,32,98,32,52,10,102,114,111,110,116,32,107,42,53,10]) zod (by decide) w hg
theorem pc_c (As:Option Addr) (ns cs:Nat) (st:List Stf) (Ac:Option Addr) (nc cc:Nat) (se:List Sec) (v:Int) (w:World) (hs:Vec shStf w As ns st) (hc:Secs w Ac nc se) (he:patE [97] (gerr 1 1 1 1) st se=v) (h1:∀i,i<ns→(stN st i).length≤100000) (h2:∀i,i<nc→(seN se i).length≤100000) (h3:ns≤10000:=by omega) (h4:nc≤10000:=by omega) :
  Calls Tryz.prog 28 #[.agg #[.string ⟨#[97]⟩,.int .i64 1,.int .i64 1,.int .i64 1,.int .i64 1,.slice As ns cs,.slice Ac nc cc]] w fun e w'=>e = .returned (.int .i64 v)∧Ext w w':=by
 have h:=za2 [97] 1 1 1 1 As ns cs st Ac nc cc se w hs hc (by decide) h1 h2 h3 h4
 rw [he] at h
 exact h
theorem secs_nil (w:World):Secs w none 0 []:=⟨by unfold maxLen;omega,[],Vec.none_ _ _ _,rfl,fun k hk=>by simp at hk⟩
theorem pz_c (w:World):Calls Tryz.prog 28 #[.agg #[.string ⟨#[]⟩,.int .i64 0,.int .i64 0,.int .i64 0,.int .i64 0,.slice none 0 0,.slice none 0 0]] w fun e w'=>e = .returned (.int .i64 8)∧Ext w w':=by
 have h:=za2 [] 0 0 0 0 none 0 0 [] none 0 0 [] w (Vec.none_ shStf _ none) (secs_nil _) (by decide) (fun i hi=>by omega) (fun i hi=>by omega) (by omega) (by omega)
 rw [show patE [] (gerr 0 0 0 0) [] []=8 by decide +kernel] at h
 exact h
theorem rr_201 (w:World) (hg:Glob w):Calls Tryz.prog 12 #[.int .i64 201,.string ⟨#[]⟩] w fun e w''=>∃(A:Option Addr) (c:Nat),e = .returned (.tuple #[.agg #[.int .i64 0,.slice A 0 c],.int .i64 12])∧Ext w w'':=by
 refine (zbk 201 [] (by decide) w hg).mono ?_
 rintro e w9 ⟨A,n,c,rfl,h1,h2⟩
 obtain ⟨e1,e2,e3⟩:=zlb (show rdP atoiO 201 []=none from zfV (by decide +kernel))
 rw [e2] at h2
 obtain rfl:n=0:=h2.len.symm
 rw [e1,e3]
 exact ⟨A,c,rfl,h1⟩
theorem field_rows (x:Int) (A:Option Addr) (n c:Nat) (w:World):Sem.run Tryz.prog (Instr.field 24 (.agg #[.int .i64 x,.slice A n c]) 1) w = .ok (.slice A n c) w:=by
 simp [Instr.field,run_underlying Tryz.underlying24,asAgg,part,isAgg,run_underlying Tryz.underlying22,go_sem]
theorem made_secs (n:Nat):(madeCells #[Value.string ⟨#[]⟩,.int .i64 0,.slice none 0 0] (n*3)).toList=(List.replicate n rsec0).flatMap shSec.cells:=by
 induction n with
 | zero=>simp [madeCells]
 | succ n ih =>
  rw [List.replicate_succ',Z2,←ih]
  unfold madeCells
  rw [show (n+1)*3=n*3+1+1+1 by omega]
  simp only [Array.toList_map,Array.toList_range,List.range_succ,List.map_append,ZJ,ZY,List.map_nil]
  congr 1
  have e0:n*3 % 3=0:=by omega
  have e1:(n*3+1) % 3=1:=by omega
  have e2:(n*3+1+1) % 3=2:=by omega
  show [#[Value.string ⟨#[]⟩,.int .i64 0,.slice none 0 0][n*3 % 3]!]++([#[Value.string ⟨#[]⟩,.int .i64 0,.slice none 0 0][(n*3+1) % 3]!]++[#[Value.string ⟨#[]⟩,.int .i64 0,.slice none 0 0][(n*3+1+1) % 3]!])=_
  rw [e0,e1,e2]
  rfl
theorem secs_made {w:World} {B n c:Nat} {e:TypeId} {A:Option Addr} (h:w.ownsRow B e 3 (.slice A n c) n (madeCells #[Value.string ⟨#[]⟩,.int .i64 0,.slice none 0 0] (n*3)).toList) (hn:n≤1000:=by omega):Secs w A n (List.replicate n sec0):=by
 rw [made_secs] at h
 obtain ⟨A',c',e1,hv, -⟩:=zac (show OwnV shSec w B e (.slice A n c) n (List.replicate n rsec0) from h)
 cases e1
 refine ⟨by unfold maxLen;omega,_,hv,by simp,fun k hk=>?_⟩
 have hk2:k<n:=by simpa using hk
 have e1:(List.replicate n rsec0).getD k rsec0=rsec0:=by rw [Zc];simp [hk2]
 have e2:(List.replicate n sec0).getD k sec0=sec0:=by rw [Zc];simp [hk2]
 rw [e1,e2]
 exact ⟨rfl,rfl,Rws.none_ _ _ _,Zf _⟩
theorem secs_set {w:World} {g p j n:Nat} {v:Value} (h:Secs w (some ⟨g,0,none⟩) n (List.replicate n sec0)) (hn:p≠g):Secs (w.setCell ⟨p,j,none⟩ v) (some ⟨g,0,none⟩) n (List.replicate n sec0):=by
 obtain ⟨h0,xs,h1,h2,h3⟩:=h
 refine ⟨h0,xs,h1.keep (by simp) (fun b off e o=>by cases e;exact Zj _ _ _ _ (fun e=>hn (by injection e))),h2,fun k hk=>?_⟩
 obtain ⟨a1,a2,a3,a4⟩:=h3 k hk
 have e2:(List.replicate n sec0).getD k sec0=sec0:=by rw [Zc];simp at hk;simp [hk]
 rw [e2] at a1 a2 a3 ⊢
 have hz:=a3.len
 have hz2:(xs.getD k rsec0).n=0:=hz.symm
 refine ⟨a1,a2,?_,a4⟩
 rw [hz2]
 exact Rws.none_ _ _ _
theorem add0 (b j:Nat):Addr.add ⟨b,0,none⟩ j=⟨b,j,none⟩:=by
 unfold Addr.add
 split <;> simp_all
theorem lit3 {w:World} {a b c u:Value} {t:TypeId} {j:Nat} (hu:([a,b,c]:List Value)[j]?=some u):(w.alloc (.cells #[a,b,c] t)).cell? (Addr.add ⟨w.heap.size,0,none⟩ j)=some u:=by
 rw [add0,cell_of_row _ w.heap.size j _ t (0,0) (heap_alloc_new w _)]
 simpa using hu
theorem one3 {x:Int} {s:ByteArray} {A:Option Addr} {n c:Nat}:∀u∈([.string s,.int .i64 x,.slice A n c]:List Value),u.oneCell'=true:=by
 intro u hu
 simp at hu
 rcases hu with rfl | rfl | rfl <;> rfl
def pl7 (V5 V6:Value):List Value:=[.string ⟨#[97]⟩,.int .i64 1,.int .i64 1,.int .i64 1,.int .i64 1,V5,V6]
structure Bx7 (w:World) (p:Nat) (V5 V6:Value):Prop where
 c:CellsAt w p (pl7 V5 V6)
 z:∀o,w.frozen? ⟨p,o,none⟩=false
 lt:p<w.heap.size
theorem Bx7.ext {w w':World} {p:Nat} {V5 V6:Value} (h:Bx7 w p V5 V6) (hb:Ext w w'):Bx7 w' p V5 V6:=⟨h.c.ext hb h.lt,fun o=>(hb.facts.2.1 _ _ h.lt).trans (h.z o),hb.facts.2.2 _ h.lt⟩
theorem Bx7.set5 {w:World} {p:Nat} {V5 V6:Value} (h:Bx7 w p V5 V6) (v:Value):Bx7 (w.setCell ⟨p,5,none⟩ v) p v V6:=⟨by simpa [pl7] using h.c.set (j:=5) (by simp [pl7]) v,fun o=>(Zv _ _ _ _).trans (h.z o),by simpa using h.lt⟩
theorem Bx7.set6 {w:World} {p:Nat} {V5 V6:Value} (h:Bx7 w p V5 V6) (v:Value):Bx7 (w.setCell ⟨p,6,none⟩ v) p V5 v:=⟨by simpa [pl7] using h.c.set (j:=6) (by simp [pl7]) v,fun o=>(Zv _ _ _ _).trans (h.z o),by simpa using h.lt⟩
theorem Bx7.other {w:World} {p q j:Nat} {V5 V6 v:Value} (h:Bx7 w p V5 V6) (hn:q≠p):Bx7 (w.setCell ⟨q,j,none⟩ v) p V5 V6:=⟨h.c.other (by exact hn) v,fun o=>(Zv _ _ _ _).trans (h.z o),by simpa using h.lt⟩
theorem Bx7.new (w:World) (V5 V6:Value):Bx7 (w.alloc (.cells #[.string ⟨#[97]⟩,.int .i64 1,.int .i64 1,.int .i64 1,.int .i64 1,V5,V6] 42)) w.heap.size V5 V6 :=
 ⟨fun j v hv=>by rw [cell_of_row _ w.heap.size _ _ _ (0,0) (heap_alloc_new w _)];simpa [pl7] using hv,fun o=>by simp [go_sem],by simp⟩
theorem Bx7.f {w:World} {p:Nat} {V5 V6:Value} (h:Bx7 w p V5 V6):w.cell? ⟨p,0,none⟩=some (.string ⟨#[97]⟩)∧w.cell? ⟨p,1,none⟩=some (.int .i64 1)∧w.cell? ⟨p,2,none⟩=some (.int .i64 1)∧w.cell? ⟨p,3,none⟩=some (.int .i64 1)∧w.cell? ⟨p,4,none⟩=some (.int .i64 1) ∧
  w.cell? ⟨p,5,none⟩=some V5∧w.cell? ⟨p,6,none⟩=some V6∧(∀o,w.frozen? ⟨p,o,none⟩=false)∧p<w.heap.size:=⟨h.c 0 _ rfl,h.c 1 _ rfl,h.c 2 _ rfl,h.c 3 _ rfl,h.c 4 _ rfl,h.c 5 _ rfl,h.c 6 _ rfl,h.z,h.lt⟩
def plSe:List Sec:=[⟨[98],4,gvR⟩]
theorem plain_c (w:World):Calls Tryz.prog 26 #[] w fun e w'=>∃(g:Nat),e = .returned (.agg #[.string ⟨#[97]⟩,.int .i64 1,.int .i64 1,.int .i64 1,.int .i64 1,.slice none 0 0,.slice (some ⟨g,0,none⟩) 1 1])∧Ext w w'∧Secs w' (some ⟨g,0,none⟩) 1 plSe∧w.heap.size≤g:=by
 go_enter Tryz.func26,Tryz.ntmps26
 go_wp2_with (first
  | (go_at_call 27;((with_reducible refine (zcz _).mono ?_);rintro e w1 ⟨A1,rfl,hq1,hr1⟩;have HR1:=Za hr1;have HQ1:=Za hq1;clear hr1;have HC1:=Za ((zdH w).ext hq1 (by simp));obtain ⟨x0,x1,x2,x3,x4,x5,x6⟩:=zak HC1.out;have xf:∀o,w1.frozen? ⟨w.heap.size,o,none⟩=false:=fun o=>(hq1.facts.2.1 _ _ (by simp)).trans (by simp [go_sem]);have xz:w.heap.size<w1.heap.size:=hq1.facts.2.2 _ (by simp))))
 obtain ⟨Wq,hWq⟩:∃W,(((((((w1.setCell ⟨w.heap.size,0,none⟩ (.string ⟨#[97]⟩)).setCell ⟨w.heap.size,1,none⟩ (.int .i64 1)).setCell ⟨w.heap.size,2,none⟩ (.int .i64 1)).setCell ⟨w.heap.size,3,none⟩ (.int .i64 1)).setCell ⟨w.heap.size,4,none⟩ (.int .i64 1)).setCell ⟨w.heap.size,5,none⟩ (.slice none 0 0)).setCell ⟨w.heap.size,6,none⟩ (.slice (some ⟨w1.heap.size,0,none⟩) 1 1))=W:=⟨_,rfl⟩
 have hz:=zjD (hWq ▸ znQ HC1.out (.string ⟨#[97]⟩) (.int .i64 1) (.int .i64 1) (.int .i64 1) (.int .i64 1) (.slice none 0 0) (.slice (some ⟨w1.heap.size,0,none⟩) 1 1))
 have hx:Ext w Wq:=hWq ▸ znv (((Zd w).alloc _).trans HQ1.out) (Zf _) _ _ _ _ _ _ _
 have hs:Wq.heap.size=w1.heap.size:=by rw [←hWq];simp
 have hc:∀b,w.heap.size+1≤b→∀o,Wq.cell? ⟨b,o,none⟩=w1.cell? ⟨b,o,none⟩:=fun b hb o=>by
  have hn:∀j,(⟨w.heap.size,j,none⟩:Addr)≠⟨b,o,none⟩:=fun j e=>by injection e;omega
  rw [←hWq,Zj _ _ _ _ (hn _),Zj _ _ _ _ (hn _),Zj _ _ _ _ (hn _),Zj _ _ _ _ (hn _),Zj _ _ _ _ (hn _),Zj _ _ _ _ (hn _),Zj _ _ _ _ (hn _)]
 rw [hWq]
 have xq:w.heap.size<Wq.heap.size:=by rw [hs];exact xz
 have hl:∀j v,Wq.cell? ⟨w.heap.size,j,none⟩=some v→(Wq.alloc (.cells #[.string ⟨#[98]⟩,.int .i64 4,.slice A1 6 6] 59)).cell? ⟨w.heap.size,j,none⟩=some v:=fun j v h=>(Zm (p:=⟨w.heap.size,j,none⟩) ((Zd Wq).alloc _) xq).trans h
 obtain ⟨z0,z1,z2,z3,z4,z5,z6⟩:=hz
 have y0:=hl _ _ z0
 have y1:=hl _ _ z1
 have y2:=hl _ _ z2
 have y3:=hl _ _ z3
 have y4:=hl _ _ z4
 have y5:=hl _ _ z5
 have y6:=hl _ _ z6
 have hk1:w.heap.size+1≤(w.alloc (.cells #[.string ⟨#[]⟩,.int .i64 0,.int .i64 0,.int .i64 0,.int .i64 0,.slice none 0 0,.slice none 0 0] 42)).heap.size:=by simp
 have hrr:Rws (Wq.alloc (.cells #[.string ⟨#[98]⟩,.int .i64 4,.slice A1 6 6] 59)) (fun _=>True) A1 6 gvR:=HR1.out.keep (by simp;omega) fun b hb hk=>⟨trivial,fun o=>(Zm (p:=⟨b,o,none⟩) ((Zd Wq).alloc _) (by rw [hs];exact hb)).trans (hc b (ZB hk1 hk) o)⟩
 refine bodyPost_ret (v := .agg #[.string ⟨#[97]⟩,.int .i64 1,.int .i64 1,.int .i64 1,.int .i64 1,.slice none 0 0,.slice (some ⟨w1.heap.size,0,none⟩) 1 1]) (by simp [results,Tryz.f26,go_sem,y0,y1,y2,y3,y4,y5,y6]) rfl ⟨_,rfl,hx.alloc _,⟨by unfold maxLen;omega,[⟨[98],4,A1,6,6⟩],Vec.lit2 hs.symm rfl rfl,rfl,fun k hk=>?_⟩,Nat.le_of_lt xz⟩
 have hk0:k=0:=by simpa [plSe] using hk
 subst hk0
 exact ⟨rfl,rfl,hrr,Zf _⟩
def lsV (As Ac:Option Addr) (cs cc:Nat):Value := .agg #[.string ⟨#[97]⟩,.int .i64 10000,.int .i64 1,.int .i64 1,.int .i64 1,.slice As 1 cs,.slice Ac 2 cc]
theorem ls_e:patE [97] (gerr 10000 1 1 1) lsSt lsSe=0:=by decide +kernel
theorem ls_x:secE [97] (gerr 10000 1 1 1) lsSt lsSe [120]=6∧secS [97] (gerr 10000 1 1 1) lsSt lsSe [120]=0:=by decide +kernel
theorem ls_b:secE [97] (gerr 10000 1 1 1) lsSt lsSe [98]=0∧secS [97] (gerr 10000 1 1 1) lsSt lsSe [98]=0∧secL [97] (gerr 10000 1 1 1) lsSt lsSe [98]=[]:=by decide +kernel
theorem ls_st (i:Nat) (_:i<1):(stN lsSt i).length≤100000:=by
 rcases i with _ | i
 ·decide
 ·omega
theorem ls_se (i:Nat) (_:i<2):(seN lsSe i).length≤100000:=by
 rcases i with _ | _ | i
 ·decide
 ·decide
 ·omega
theorem ls_parse (w:World) (hg:Glob w):Calls Tryz.prog 18 #[.string ⟨#[112,97,116,116,101,114,110,32,97,10,103,97,117,103,101,32,49,48,48,48,48,32,49,32,49,32,49,10,115,116,117,102,102,32,99,32,49,48,48,48,48,48,10,115,101,99,116,105,111,110,32,98,32,48,10,115,101,99,116,105,111,110,32,100,32,52,10,102,114,111,110,116,32,107,42,52,10]⟩] w fun e w'=>∃(As Ac:Option Addr) (cs cc:Nat),e = .returned (.tuple #[.agg #[.string ⟨#[97]⟩,.int .i64 10000,.int .i64 1,.int .i64 1,.int .i64 1,.slice As 1 cs,.slice Ac 2 cc],.int .i64 0])∧Ext w w'∧Vec shStf w' As 1 lsSt∧Secs w' Ac 2 lsSe:=by
 refine (za4 lsB (by decide) w hg).mono ?_
 rintro e w' ⟨h1,⟨h2, -⟩ | ⟨p,As,Ac,cs,cc,h2,rfl,h3,h4, -⟩⟩
 ·rw [zoD] at h2;cases h2
 ·rw [zoD] at h2
  cases h2
  exact ⟨As,Ac,cs,cc,rfl,h1,h3,h4⟩
section
variable (As Ac:Option Addr) (cs cc:Nat) (w:World) (hs:Vec shStf w As 1 lsSt) (hc:Secs w Ac 2 lsSe)
include hs hc
theorem ls_grams:Calls Tryz.prog 24 #[.agg #[.string ⟨#[97]⟩,.int .i64 10000,.int .i64 1,.int .i64 1,.int .i64 1,.slice As 1 cs,.slice Ac 2 cc]] w fun e w'=>e = .returned (.tuple #[.int .i64 100000,.int .i64 0])∧Ext w w':=by
 have h:=zbT [97] 10000 1 1 1 As 1 cs lsSt Ac 2 cc lsSe w hs hc (by decide) ls_st ls_se (by decide) (by decide)
 unfold GrmR at h
 rw [ls_e,if_pos rfl,show gramS lsSt lsSt.length=100000 from rfl] at h
 exact h
theorem ls_secx:Calls Tryz.prog 25 #[.agg #[.string ⟨#[97]⟩,.int .i64 10000,.int .i64 1,.int .i64 1,.int .i64 1,.slice As 1 cs,.slice Ac 2 cc],.string ⟨#[120]⟩] w fun e w'=>∃(A:Option Addr) (n c:Nat),e = .returned (.tuple #[.agg #[.int .i64 0,.slice A n c],.int .i64 6])∧Ext w w':=by
 refine (zcV [97] 10000 1 1 1 As 1 cs lsSt Ac 2 cc lsSe w [120] hs hc (by decide) ls_st ls_se (by decide) (by decide)).mono ?_
 rintro e w' ⟨A,n,c,rfl,h1,h2⟩
 rw [ls_x.1,ls_x.2]
 exact ⟨A,n,c,rfl,h1⟩
theorem ls_secb:Calls Tryz.prog 25 #[.agg #[.string ⟨#[97]⟩,.int .i64 10000,.int .i64 1,.int .i64 1,.int .i64 1,.slice As 1 cs,.slice Ac 2 cc],.string ⟨#[98]⟩] w fun e w'=>∃(A:Option Addr) (c:Nat),e = .returned (.tuple #[.agg #[.int .i64 0,.slice A 0 c],.int .i64 0])∧Ext w w':=by
 refine (zcV [97] 10000 1 1 1 As 1 cs lsSt Ac 2 cc lsSe w [98] hs hc (by decide) ls_st ls_se (by decide) (by decide)).mono ?_
 rintro e w' ⟨A,n,c,rfl,h1,h2⟩
 rw [ls_b.2.2] at h2
 obtain rfl:n=0:=h2.len.symm
 rw [ls_b.1,ls_b.2.1]
 exact ⟨A,c,rfl,h1⟩
end
theorem patternNames_walk (w:World) (hg:Glob w):Calls Tryz.prog 5 #[] w fun e w'=>e = .returned (.bool true)∧Ext w w':=by
 have HG:=Za hg
 have HE:=Za (Zd w)
 clear hg
 go_enter Tryz.func5,Tryz.ntmps5
 go_upto_region 9 with (first
  | (go_at_call 21;(first | ((with_reducible refine (wr_0_f _ (HG.out.ext (HE.out.trans zx))).mono ?_);rintro e wa0 ⟨rfl,hqa0⟩;replace HE:=Za (HE.out.trans (Zb zx hqa0:Ext _ wa0));clear hqa0) | ((with_reducible refine (wr_1_f _ (HG.out.ext (HE.out.trans zx))).mono ?_);rintro e wa1 ⟨rfl,hqa1⟩;replace HE:=Za (HE.out.trans (Zb zx hqa1:Ext _ wa1));clear hqa1) | ((with_reducible refine (wr_2_f _ (HG.out.ext (HE.out.trans zx))).mono ?_);rintro e wa2 ⟨rfl,hqa2⟩;replace HE:=Za (HE.out.trans (Zb zx hqa2:Ext _ wa2));clear hqa2) | ((with_reducible refine (wr_3_f _ (HG.out.ext (HE.out.trans zx))).mono ?_);rintro e wa3 ⟨rfl,hqa3⟩;replace HE:=Za (HE.out.trans (Zb zx hqa3:Ext _ wa3));clear hqa3) | ((with_reducible refine (wr_4_f _ (HG.out.ext (HE.out.trans zx))).mono ?_);rintro e wa4 ⟨rfl,hqa4⟩;replace HE:=Za (HE.out.trans (Zb zx hqa4:Ext _ wa4));clear hqa4) | ((with_reducible refine (wr_5_f _ (HG.out.ext (HE.out.trans zx))).mono ?_);rintro e wa5 ⟨rfl,hqa5⟩;replace HE:=Za (HE.out.trans (Zb zx hqa5:Ext _ wa5));clear hqa5)))
  | (go_at_call 22;(first | ((with_reducible refine (rf_0_f _ (HG.out.ext (HE.out.trans zx))).mono ?_);rintro e wb0 ⟨rfl,hqb0⟩;replace HE:=Za (HE.out.trans (Zb zx hqb0:Ext _ wb0));clear hqb0) | ((with_reducible refine (rf_1_f _ (HG.out.ext (HE.out.trans zx))).mono ?_);rintro e wb1 ⟨rfl,hqb1⟩;replace HE:=Za (HE.out.trans (Zb zx hqb1:Ext _ wb1));clear hqb1) | ((with_reducible refine (rf_2_f _ (HG.out.ext (HE.out.trans zx))).mono ?_);rintro e wb2 ⟨rfl,hqb2⟩;replace HE:=Za (HE.out.trans (Zb zx hqb2:Ext _ wb2));clear hqb2) | ((with_reducible refine (rf_3_f _ (HG.out.ext (HE.out.trans zx))).mono ?_);rintro e wb3 ⟨rfl,hqb3⟩;replace HE:=Za (HE.out.trans (Zb zx hqb3:Ext _ wb3));clear hqb3) | ((with_reducible refine (rf_4_f _ (HG.out.ext (HE.out.trans zx))).mono ?_);rintro e wb4 ⟨rfl,hqb4⟩;replace HE:=Za (HE.out.trans (Zb zx hqb4:Ext _ wb4));clear hqb4) | ((with_reducible refine (rf_5_f _ (HG.out.ext (HE.out.trans zx))).mono ?_);rintro e wb5 ⟨rfl,hqb5⟩;replace HE:=Za (HE.out.trans (Zb zx hqb5:Ext _ wb5));clear hqb5) | ((with_reducible refine (rf_6_f _ (HG.out.ext (HE.out.trans zx))).mono ?_);rintro e wb6 ⟨rfl,hqb6⟩;replace HE:=Za (HE.out.trans (Zb zx hqb6:Ext _ wb6));clear hqb6) | ((with_reducible refine (rf_7_f _ (HG.out.ext (HE.out.trans zx))).mono ?_);rintro e wb7 ⟨rfl,hqb7⟩;replace HE:=Za (HE.out.trans (Zb zx hqb7:Ext _ wb7));clear hqb7) | ((with_reducible refine (rf_8_f _ (HG.out.ext (HE.out.trans zx))).mono ?_);rintro e wb8 ⟨rfl,hqb8⟩;replace HE:=Za (HE.out.trans (Zb zx hqb8:Ext _ wb8));clear hqb8) | ((with_reducible refine (rf_9_f _ (HG.out.ext (HE.out.trans zx))).mono ?_);rintro e wb9 ⟨rfl,hqb9⟩;replace HE:=Za (HE.out.trans (Zb zx hqb9:Ext _ wb9));clear hqb9) | ((with_reducible refine (rf_10_f _ (HG.out.ext (HE.out.trans zx))).mono ?_);rintro e wb10 ⟨rfl,hqb10⟩;replace HE:=Za (HE.out.trans (Zb zx hqb10:Ext _ wb10));clear hqb10) | ((with_reducible refine (rf_11_f _ (HG.out.ext (HE.out.trans zx))).mono ?_);rintro e wb11 ⟨rfl,hqb11⟩;replace HE:=Za (HE.out.trans (Zb zx hqb11:Ext _ wb11));clear hqb11) | ((with_reducible refine (rf_12_f _ (HG.out.ext (HE.out.trans zx))).mono ?_);rintro e wb12 ⟨rfl,hqb12⟩;replace HE:=Za (HE.out.trans (Zb zx hqb12:Ext _ wb12));clear hqb12) | ((with_reducible refine (rf_13_f _ (HG.out.ext (HE.out.trans zx))).mono ?_);rintro e wb13 ⟨rfl,hqb13⟩;replace HE:=Za (HE.out.trans (Zb zx hqb13:Ext _ wb13));clear hqb13) | ((with_reducible refine (rf_14_f _ (HG.out.ext (HE.out.trans zx))).mono ?_);rintro e wb14 ⟨rfl,hqb14⟩;replace HE:=Za (HE.out.trans (Zb zx hqb14:Ext _ wb14));clear hqb14) | ((with_reducible refine (rf_15_f _ (HG.out.ext (HE.out.trans zx))).mono ?_);rintro e wb15 ⟨rfl,hqb15⟩;replace HE:=Za (HE.out.trans (Zb zx hqb15:Ext _ wb15));clear hqb15)))
  | (go_at_call 23;(first | ((with_reducible refine (no_0_f _ (HG.out.ext (HE.out.trans zx))).mono ?_);rintro e wc0 ⟨rfl,hqc0⟩;replace HE:=Za (HE.out.trans (Zb zx hqc0:Ext _ wc0));clear hqc0) | ((with_reducible refine (no_1_f _ (HG.out.ext (HE.out.trans zx))).mono ?_);rintro e wc1 ⟨rfl,hqc1⟩;replace HE:=Za (HE.out.trans (Zb zx hqc1:Ext _ wc1));clear hqc1) | ((with_reducible refine (no_2_f _ (HG.out.ext (HE.out.trans zx))).mono ?_);rintro e wc2 ⟨rfl,hqc2⟩;replace HE:=Za (HE.out.trans (Zb zx hqc2:Ext _ wc2));clear hqc2) | ((with_reducible refine (no_3_f _ (HG.out.ext (HE.out.trans zx))).mono ?_);rintro e wc3 ⟨rfl,hqc3⟩;replace HE:=Za (HE.out.trans (Zb zx hqc3:Ext _ wc3));clear hqc3) | ((with_reducible refine (no_4_f _ (HG.out.ext (HE.out.trans zx))).mono ?_);rintro e wc4 ⟨rfl,hqc4⟩;replace HE:=Za (HE.out.trans (Zb zx hqc4:Ext _ wc4));clear hqc4) | ((with_reducible refine (no_5_f _ (HG.out.ext (HE.out.trans zx))).mono ?_);rintro e wc5 ⟨rfl,hqc5⟩;replace HE:=Za (HE.out.trans (Zb zx hqc5:Ext _ wc5));clear hqc5) | ((with_reducible refine (no_6_f _ (HG.out.ext (HE.out.trans zx))).mono ?_);rintro e wc6 ⟨rfl,hqc6⟩;replace HE:=Za (HE.out.trans (Zb zx hqc6:Ext _ wc6));clear hqc6) | ((with_reducible refine (no_7_f _ (HG.out.ext (HE.out.trans zx))).mono ?_);rintro e wc7 ⟨rfl,hqc7⟩;replace HE:=Za (HE.out.trans (Zb zx hqc7:Ext _ wc7));clear hqc7) | ((with_reducible refine (no_8_f _ (HG.out.ext (HE.out.trans zx))).mono ?_);rintro e wc8 ⟨rfl,hqc8⟩;replace HE:=Za (HE.out.trans (Zb zx hqc8:Ext _ wc8));clear hqc8) | ((with_reducible refine (no_9_f _ (HG.out.ext (HE.out.trans zx))).mono ?_);rintro e wc9 ⟨rfl,hqc9⟩;replace HE:=Za (HE.out.trans (Zb zx hqc9:Ext _ wc9));clear hqc9) | ((with_reducible refine (no_10_f _ (HG.out.ext (HE.out.trans zx))).mono ?_);rintro e wc10 ⟨rfl,hqc10⟩;replace HE:=Za (HE.out.trans (Zb zx hqc10:Ext _ wc10));clear hqc10)))
  | (go_at_call 18;((with_reducible refine (ls_parse _ (HG.out.ext (HE.out.trans zx))).mono ?_);rintro e wd ⟨As,Ac,cs,cc,rfl,hqd,hsd,hcd⟩;replace HE:=Za (HE.out.trans (Zb zx hqd:Ext _ wd));clear hqd;have HS:=Za hsd;have HC:=Za hcd;have HL:=Za (BoxP.start wd [97] 10000 1 1 1 As 1 cs Ac 2 cc);have HD:=Za (Zd (wd.alloc (.cells #[.string ⟨#[97]⟩,.int .i64 10000,.int .i64 1,.int .i64 1,.int .i64 1,.slice As 1 cs,.slice Ac 2 cc] 42)));clear hsd hcd))
  | (go_at_call 24;((with_reducible refine (ls_grams As Ac cs cc _ (HS.out.ext (((Zd _).alloc _).trans (HD.out.trans zx))) (HC.out.ext (((Zd _).alloc _).trans (HD.out.trans zx)))).mono ?_);rintro e we ⟨rfl,hqe⟩;replace HE:=Za (HE.out.trans (Zb zx hqe:Ext _ we));replace HD:=Za (HD.out.trans (Zb zx hqe:Ext _ we));clear hqe;obtain ⟨x0,x1,x2,x3,x4,x5,x6,xz⟩:=(HL.out.ext HD.out).facts))
  | (go_at_call 25;(first | ((with_reducible refine (ls_secx As Ac cs cc _ (HS.out.ext (((Zd _).alloc _).trans (HD.out.trans zx))) (HC.out.ext (((Zd _).alloc _).trans (HD.out.trans zx)))).mono ?_);rintro e wf ⟨Af,nf,cf,rfl,hqf⟩;replace HE:=Za (HE.out.trans (Zb zx hqf:Ext _ wf));replace HD:=Za (HD.out.trans (Zb zx hqf:Ext _ wf));clear hqf;obtain ⟨x0,x1,x2,x3,x4,x5,x6,xz⟩:=(HL.out.ext HD.out).facts) | ((with_reducible refine (ls_secb As Ac cs cc _ (HS.out.ext (((Zd _).alloc _).trans (HD.out.trans zx))) (HC.out.ext (((Zd _).alloc _).trans (HD.out.trans zx)))).mono ?_);rintro e wh ⟨Ah,ch,rfl,hqh⟩;replace HE:=Za (HE.out.trans (Zb zx hqh:Ext _ wh));replace HD:=Za (HD.out.trans (Zb zx hqh:Ext _ wh));clear hqh;obtain ⟨x0,x1,x2,x3,x4,x5,x6,xz⟩:=(HL.out.ext HD.out).facts)))
  | (go_at_call 26;(first | ((fail_if_success (have h0:=T0.out));(with_reducible refine (plain_c _).mono ?_);rintro e wp0 ⟨gp0,rfl,hqp0,hsp0,hgp0⟩;have T0:=Za trivial;have HP0:=Za hsp0;have HQ0:=Za hqp0;clear hsp0;replace HE:=Za (HE.out.trans (Zb zx hqp0:Ext _ wp0));clear hqp0) | ((have h0:=T0.out);(fail_if_success (have h0:=T1.out));(with_reducible refine (plain_c _).mono ?_);rintro e wp1 ⟨gp1,rfl,hqp1,hsp1,hgp1⟩;have T1:=Za trivial;have HP1:=Za hsp1;have HQ1:=Za hqp1;clear hsp1;replace HE:=Za (HE.out.trans (Zb zx hqp1:Ext _ wp1));clear hqp1) | ((have h0:=T1.out);(fail_if_success (have h0:=T2.out));(with_reducible refine (plain_c _).mono ?_);rintro e wp2 ⟨gp2,rfl,hqp2,hsp2,hgp2⟩;have T2:=Za trivial;have HP2:=Za hsp2;have HQ2:=Za hqp2;clear hsp2;replace HE:=Za (HE.out.trans (Zb zx hqp2:Ext _ wp2));clear hqp2) | ((have h0:=T2.out);(fail_if_success (have h0:=T3.out));(with_reducible refine (plain_c _).mono ?_);rintro e wp3 ⟨gp3,rfl,hqp3,hsp3,hgp3⟩;have T3:=Za trivial;have HP3:=Za hsp3;have HQ3:=Za hqp3;clear hsp3;replace HE:=Za (HE.out.trans (Zb zx hqp3:Ext _ wp3));clear hqp3) | ((have h0:=T3.out);(fail_if_success (have h0:=T4.out));(with_reducible refine (plain_c _).mono ?_);rintro e wp4 ⟨gp4,rfl,hqp4,hsp4,hgp4⟩;have T4:=Za trivial;have HP4:=Za hsp4;have HQ4:=Za hqp4;clear hsp4;replace HE:=Za (HE.out.trans (Zb zx hqp4:Ext _ wp4));clear hqp4) | ((have h0:=T4.out);(fail_if_success (have h0:=T5.out));(with_reducible refine (plain_c _).mono ?_);rintro e wp5 ⟨gp5,rfl,hqp5,hsp5,hgp5⟩;have T5:=Za trivial;have HP5:=Za hsp5;have HQ5:=Za hqp5;clear hsp5;replace HE:=Za (HE.out.trans (Zb zx hqp5:Ext _ wp5));clear hqp5))))
 obtain ⟨W6,hW6⟩:∃W,((((((wp5.alloc (.cells #[.string ⟨#[97]⟩,.int .i64 1,.int .i64 1,.int .i64 1,.int .i64 1,.slice none 0 0,.slice (some ⟨gp0,0,none⟩) 1 1] 42)).alloc (.cells #[.string ⟨#[97]⟩,.int .i64 1,.int .i64 1,.int .i64 1,.int .i64 1,.slice none 0 0,.slice (some ⟨gp1,0,none⟩) 1 1] 42)).alloc (.cells #[.string ⟨#[97]⟩,.int .i64 1,.int .i64 1,.int .i64 1,.int .i64 1,.slice none 0 0,.slice (some ⟨gp2,0,none⟩) 1 1] 42)).alloc (.cells #[.string ⟨#[97]⟩,.int .i64 1,.int .i64 1,.int .i64 1,.int .i64 1,.slice none 0 0,.slice (some ⟨gp3,0,none⟩) 1 1] 42)).alloc (.cells #[.string ⟨#[97]⟩,.int .i64 1,.int .i64 1,.int .i64 1,.int .i64 1,.slice none 0 0,.slice (some ⟨gp4,0,none⟩) 1 1] 42)).alloc (.cells #[.string ⟨#[97]⟩,.int .i64 1,.int .i64 1,.int .i64 1,.int .i64 1,.slice none 0 0,.slice (some ⟨gp5,0,none⟩) 1 1] 42))=W:=⟨_,rfl⟩
 rw [hW6]
 have k0:=Bx7.new wp5 (.slice none 0 0) (.slice (some ⟨gp0,0,none⟩) 1 1)
 have K0:=Za (hW6 ▸ (k0.ext ((((((Zd _).alloc (.cells #[.string ⟨#[97]⟩,.int .i64 1,.int .i64 1,.int .i64 1,.int .i64 1,.slice none 0 0,.slice (some ⟨gp1,0,none⟩) 1 1] 42)).alloc (.cells #[.string ⟨#[97]⟩,.int .i64 1,.int .i64 1,.int .i64 1,.int .i64 1,.slice none 0 0,.slice (some ⟨gp2,0,none⟩) 1 1] 42)).alloc (.cells #[.string ⟨#[97]⟩,.int .i64 1,.int .i64 1,.int .i64 1,.int .i64 1,.slice none 0 0,.slice (some ⟨gp3,0,none⟩) 1 1] 42)).alloc (.cells #[.string ⟨#[97]⟩,.int .i64 1,.int .i64 1,.int .i64 1,.int .i64 1,.slice none 0 0,.slice (some ⟨gp4,0,none⟩) 1 1] 42)).alloc (.cells #[.string ⟨#[97]⟩,.int .i64 1,.int .i64 1,.int .i64 1,.int .i64 1,.slice none 0 0,.slice (some ⟨gp5,0,none⟩) 1 1] 42))))
 have k1:=Bx7.new (wp5.alloc (.cells #[.string ⟨#[97]⟩,.int .i64 1,.int .i64 1,.int .i64 1,.int .i64 1,.slice none 0 0,.slice (some ⟨gp0,0,none⟩) 1 1] 42)) (.slice none 0 0) (.slice (some ⟨gp1,0,none⟩) 1 1)
 have K1:=Za (hW6 ▸ (k1.ext (((((Zd _).alloc (.cells #[.string ⟨#[97]⟩,.int .i64 1,.int .i64 1,.int .i64 1,.int .i64 1,.slice none 0 0,.slice (some ⟨gp2,0,none⟩) 1 1] 42)).alloc (.cells #[.string ⟨#[97]⟩,.int .i64 1,.int .i64 1,.int .i64 1,.int .i64 1,.slice none 0 0,.slice (some ⟨gp3,0,none⟩) 1 1] 42)).alloc (.cells #[.string ⟨#[97]⟩,.int .i64 1,.int .i64 1,.int .i64 1,.int .i64 1,.slice none 0 0,.slice (some ⟨gp4,0,none⟩) 1 1] 42)).alloc (.cells #[.string ⟨#[97]⟩,.int .i64 1,.int .i64 1,.int .i64 1,.int .i64 1,.slice none 0 0,.slice (some ⟨gp5,0,none⟩) 1 1] 42))))
 have k2:=Bx7.new ((wp5.alloc (.cells #[.string ⟨#[97]⟩,.int .i64 1,.int .i64 1,.int .i64 1,.int .i64 1,.slice none 0 0,.slice (some ⟨gp0,0,none⟩) 1 1] 42)).alloc (.cells #[.string ⟨#[97]⟩,.int .i64 1,.int .i64 1,.int .i64 1,.int .i64 1,.slice none 0 0,.slice (some ⟨gp1,0,none⟩) 1 1] 42)) (.slice none 0 0) (.slice (some ⟨gp2,0,none⟩) 1 1)
 have K2:=Za (hW6 ▸ (k2.ext ((((Zd _).alloc (.cells #[.string ⟨#[97]⟩,.int .i64 1,.int .i64 1,.int .i64 1,.int .i64 1,.slice none 0 0,.slice (some ⟨gp3,0,none⟩) 1 1] 42)).alloc (.cells #[.string ⟨#[97]⟩,.int .i64 1,.int .i64 1,.int .i64 1,.int .i64 1,.slice none 0 0,.slice (some ⟨gp4,0,none⟩) 1 1] 42)).alloc (.cells #[.string ⟨#[97]⟩,.int .i64 1,.int .i64 1,.int .i64 1,.int .i64 1,.slice none 0 0,.slice (some ⟨gp5,0,none⟩) 1 1] 42))))
 have k3:=Bx7.new (((wp5.alloc (.cells #[.string ⟨#[97]⟩,.int .i64 1,.int .i64 1,.int .i64 1,.int .i64 1,.slice none 0 0,.slice (some ⟨gp0,0,none⟩) 1 1] 42)).alloc (.cells #[.string ⟨#[97]⟩,.int .i64 1,.int .i64 1,.int .i64 1,.int .i64 1,.slice none 0 0,.slice (some ⟨gp1,0,none⟩) 1 1] 42)).alloc (.cells #[.string ⟨#[97]⟩,.int .i64 1,.int .i64 1,.int .i64 1,.int .i64 1,.slice none 0 0,.slice (some ⟨gp2,0,none⟩) 1 1] 42)) (.slice none 0 0) (.slice (some ⟨gp3,0,none⟩) 1 1)
 have K3:=Za (hW6 ▸ (k3.ext (((Zd _).alloc (.cells #[.string ⟨#[97]⟩,.int .i64 1,.int .i64 1,.int .i64 1,.int .i64 1,.slice none 0 0,.slice (some ⟨gp4,0,none⟩) 1 1] 42)).alloc (.cells #[.string ⟨#[97]⟩,.int .i64 1,.int .i64 1,.int .i64 1,.int .i64 1,.slice none 0 0,.slice (some ⟨gp5,0,none⟩) 1 1] 42))))
 have k4:=Bx7.new ((((wp5.alloc (.cells #[.string ⟨#[97]⟩,.int .i64 1,.int .i64 1,.int .i64 1,.int .i64 1,.slice none 0 0,.slice (some ⟨gp0,0,none⟩) 1 1] 42)).alloc (.cells #[.string ⟨#[97]⟩,.int .i64 1,.int .i64 1,.int .i64 1,.int .i64 1,.slice none 0 0,.slice (some ⟨gp1,0,none⟩) 1 1] 42)).alloc (.cells #[.string ⟨#[97]⟩,.int .i64 1,.int .i64 1,.int .i64 1,.int .i64 1,.slice none 0 0,.slice (some ⟨gp2,0,none⟩) 1 1] 42)).alloc (.cells #[.string ⟨#[97]⟩,.int .i64 1,.int .i64 1,.int .i64 1,.int .i64 1,.slice none 0 0,.slice (some ⟨gp3,0,none⟩) 1 1] 42)) (.slice none 0 0) (.slice (some ⟨gp4,0,none⟩) 1 1)
 have K4:=Za (hW6 ▸ (k4.ext ((Zd _).alloc (.cells #[.string ⟨#[97]⟩,.int .i64 1,.int .i64 1,.int .i64 1,.int .i64 1,.slice none 0 0,.slice (some ⟨gp5,0,none⟩) 1 1] 42))))
 have k5:=Bx7.new (((((wp5.alloc (.cells #[.string ⟨#[97]⟩,.int .i64 1,.int .i64 1,.int .i64 1,.int .i64 1,.slice none 0 0,.slice (some ⟨gp0,0,none⟩) 1 1] 42)).alloc (.cells #[.string ⟨#[97]⟩,.int .i64 1,.int .i64 1,.int .i64 1,.int .i64 1,.slice none 0 0,.slice (some ⟨gp1,0,none⟩) 1 1] 42)).alloc (.cells #[.string ⟨#[97]⟩,.int .i64 1,.int .i64 1,.int .i64 1,.int .i64 1,.slice none 0 0,.slice (some ⟨gp2,0,none⟩) 1 1] 42)).alloc (.cells #[.string ⟨#[97]⟩,.int .i64 1,.int .i64 1,.int .i64 1,.int .i64 1,.slice none 0 0,.slice (some ⟨gp3,0,none⟩) 1 1] 42)).alloc (.cells #[.string ⟨#[97]⟩,.int .i64 1,.int .i64 1,.int .i64 1,.int .i64 1,.slice none 0 0,.slice (some ⟨gp4,0,none⟩) 1 1] 42)) (.slice none 0 0) (.slice (some ⟨gp5,0,none⟩) 1 1)
 have K5:=Za (hW6 ▸ k5)
 have HE6:=Za (show Ext w W6 by rw [←hW6];have h9:=HE.out;repeat (first|exact zr _|assumption|refine za ?_ _|refine zd ?_|refine zn ?_ _|refine zt ?_ (by assumption)))
 have HE56:=Za (show Ext wp5 W6 by rw [←hW6];repeat (first|exact zr _|assumption|refine za ?_ _|refine zd ?_|refine zn ?_ _|refine zt ?_ (by assumption)))
 have HE5W:=Za HE.out
 simp only [ZI] at K0 K1 K2 K3 K4 K5
 clear k0 k1 k2 k3 k4 k5 hW6
 obtain ⟨B,hB⟩:∃B,wp5.heap.size=B:=⟨_,rfl⟩
 rw [hB] at K0 K1 K2 K3 K4 K5 ⊢
 have HBQ:=Za hB
 clear hB
 obtain ⟨f0,f1,f2,f3,f4,f5,f6,f7,f8⟩:=K0.out.f
 have hb6:w.heap.size≤W6.heap.size:=Zr HE6.out
 go_upto_region 10 with (at_make;(refine zaO 40 59 (.agg #[.string ⟨#[]⟩,.int .i64 0,.slice none 0 0]) 3 48 21 0 (by rfl) (by rfl) Tryz.underlying40 zd7 (by rfl) (by omega) (by omega) (Zu _) ?_;intro w9 HO9 HE9 hlt9;have HM9:=Za (secs_made HO9.out);obtain ⟨f0,f1,f2,f3,f4,f5,f6,f7,f8⟩:=(K0.out.ext HE9.out).f))
 obtain ⟨gm,hgm⟩:∃g,W6.heap.size=g:=⟨_,rfl⟩
 rw [hgm] at HM9 ⊢
 have hgb:B+1+1+1+1+1<gm:=by have h9:=K5.out.lt;omega
 have HGM:=Za (And.intro hgb hlt9)
 obtain ⟨W7,hW7⟩:∃W,w9.setCell ⟨B,6,none⟩ (.slice (some ⟨gm,0,none⟩) 21 21)=W:=⟨_,rfl⟩
 rw [hW7]
 have k0:=hW7 ▸ (K0.out.ext HE9.out).set6 _
 have k1:=hW7 ▸ (K1.out.ext HE9.out).other (by omega)
 have k2:=hW7 ▸ (K2.out.ext HE9.out).other (by omega)
 have k3:=hW7 ▸ (K3.out.ext HE9.out).other (by omega)
 have k4:=hW7 ▸ (K4.out.ext HE9.out).other (by omega)
 have k5:=hW7 ▸ (K5.out.ext HE9.out).other (by omega)
 replace K0:=Za k0
 replace K1:=Za k1
 replace K2:=Za k2
 replace K3:=Za k3
 replace K4:=Za k4
 replace K5:=Za k5
 clear k0 k1 k2 k3 k4 k5
 have HE5:=Za (show Ext wp5 W7 by
  have h9:=HBQ.out
  rw [←hW7]
  exact Zi (HE56.out.trans HE9.out) (by simp only;omega) _)
 have HX:=Za (show Ext w W7 by rw [←hW7];exact Zi (HE6.out.trans HE9.out) (by have h9:=Zr HE5W.out;have h8:=HBQ.out;simp only;omega) _)
 have HMM:=Za (hW7 ▸ secs_set (j:=6) (v := .slice (some ⟨gm,0,none⟩) 21 21) HM9.out (show B≠gm by omega):Secs W7 (some ⟨gm,0,none⟩) 21 (List.replicate 21 sec0))
 clear hW7 hgm f0 f1 f2 f3 f4 f5 f6 f7 f8
 obtain ⟨f0,f1,f2,f3,f4,f5,f6,f7,f8⟩:=K1.out.f
 go_upto_region 11 with fail
 obtain ⟨W8,hW8⟩:∃W,W7.setCell ⟨B+1,6,none⟩ (.slice none 0 0)=W:=⟨_,rfl⟩
 rw [hW8]
 have k0:=hW8 ▸ K0.out.other (by omega)
 have k1:=hW8 ▸ K1.out.set6 _
 have k2:=hW8 ▸ K2.out.other (by omega)
 have k3:=hW8 ▸ K3.out.other (by omega)
 have k4:=hW8 ▸ K4.out.other (by omega)
 have k5:=hW8 ▸ K5.out.other (by omega)
 replace K0:=Za k0
 replace K1:=Za k1
 replace K2:=Za k2
 replace K3:=Za k3
 replace K4:=Za k4
 replace K5:=Za k5
 clear k0 k1 k2 k3 k4 k5
 replace HE5:=Za (show Ext wp5 W8 by
  have h9:=HBQ.out
  rw [←hW8]
  exact Zi HE5.out (by simp only;omega) _)
 replace HX:=Za (show Ext w W8 by rw [←hW8];exact Zi HX.out (by have h9:=Zr HE5W.out;have h8:=HBQ.out;simp only;omega) _)
 replace HMM:=Za (hW8 ▸ secs_set (j:=6) (v := .slice none 0 0) HMM.out (show B+1≠gm by omega):Secs W8 (some ⟨gm,0,none⟩) 21 (List.replicate 21 sec0))
 clear hW8 f0 f1 f2 f3 f4 f5 f6 f7 f8
 obtain ⟨f0,f1,f2,f3,f4,f5,f6,f7,f8⟩:=K2.out.f
 have H25:=Za (HQ3.out.trans (HQ4.out.trans HQ5.out):Ext wp2 wp5)
 obtain ⟨b2,o2,A2,n2,c2,e2,hb2,z0,z1,z2,hr2,hcc2⟩:=(HP2.out.ext H25.out).at_ (k:=0) (by decide)
 cases e2
 rw [show seN plSe 0=[98] from rfl] at z0
 rw [show (plSe.getD 0 sec0).s=4 from rfl] at z1
 rw [show (plSe.getD 0 sec0).rows=gvR from rfl] at hr2
 simp only [Nat.zero_mul,Nat.add_zero,Nat.zero_add] at z0 z1 z2
 replace z0:=(HE5.out.facts.1 _ _ hb2).trans z0
 replace z1:=(HE5.out.facts.1 _ _ hb2).trans z1
 replace z2:=(HE5.out.facts.1 _ _ hb2).trans z2
 replace hb2:=HE5.out.facts.2.2 _ hb2
 have HR2:=Za hr2
 have HCC2:=Za hcc2
 have HOLD:=Za (fun (w':World) (hx:Ext W8 w')=>(show ∀j u,([.string ⟨#[98]⟩,.int .i64 4,.slice A2 n2 c2]:List Value)[j]?=some u→w'.cell? ⟨gp2,j,none⟩=some u from fun j u hu=>by
  have hf:=hx.facts.1
  rcases j with _ | _ | _ | j
  ·cases hu;exact (hf _ _ hb2).trans z0
  ·cases hu;exact (hf _ _ hb2).trans z1
  ·cases hu;exact (hf _ _ hb2).trans z2
  ·simp at hu))
 obtain ⟨i0,hi,hz0,hz1,hz2⟩:=info_parts zd7
 clear hr2 hcc2
 have HZ8:=Za K5.out.lt
 refine (fun (KK:PProd Nat ?T)=>?rest) ⟨0,?key⟩
 case rest =>
  go_region_law (refine step_append_grows rfl (.tmp 147) (.tmp 152) 40 rfl 59 i0 (.agg #[.string ⟨#[]⟩,.int .i64 0,.slice none 0 0]) 3 48 Tryz.underlying40 hi hz0 hz1 hz2 rfl (by decide) (some ⟨gp2,0,none⟩) 1 1 [.string ⟨#[98]⟩,.int .i64 4,.slice A2 n2 c2] (by rfl) (fun h=>by cases h) rfl (fun b hb j u hu=>by cases hb;rw [add0];exact HOLD.out _ zx j u hu) ⟨_,0,none⟩ 1 1 [.string ⟨#[98]⟩,.int .i64 4,.slice A2 n2 c2] (by rfl) rfl (fun j u hu=>lit3 hu) one3 (by decide) (by unfold maxLen;decide) (by decide) ?_;intro v' w' hown hgrow;obtain ⟨A9,c9,rfl,hv9,hg9⟩:=zac (show OwnV shSec w' _ _ v' 2 [⟨[98],4,A2,n2,c2⟩,⟨[98],4,A2,n2,c2⟩] from hown);have HV9:=Za hv9;have hx9:Ext W8 w':=Zb zx (But.ext_none hgrow);have HX9:=Za hx9;obtain ⟨f0,f1,f2,f3,f4,f5,f6,f7,f8⟩:=(K2.out.ext hx9).f;clear hx9 hown hgrow hv9)
  all_goals
  obtain ⟨W9,hW9⟩:∃W,w'.setCell ⟨B+1+1,6,none⟩ (.slice A9 2 c9)=W:=⟨_,rfl⟩
  rw [hW9]
  have k0:=hW9 ▸ (K0.out.ext HX9.out).other (by omega)
  have k1:=hW9 ▸ (K1.out.ext HX9.out).other (by omega)
  have k2:=hW9 ▸ (K2.out.ext HX9.out).set6 _
  have k3:=hW9 ▸ (K3.out.ext HX9.out).other (by omega)
  have k4:=hW9 ▸ (K4.out.ext HX9.out).other (by omega)
  have k5:=hW9 ▸ (K5.out.ext HX9.out).other (by omega)
  replace K0:=Za k0
  replace K1:=Za k1
  replace K2:=Za k2
  replace K3:=Za k3
  replace K4:=Za k4
  replace K5:=Za k5
  clear k0 k1 k2 k3 k4 k5
  replace HE5:=Za (show Ext wp5 W9 by
   have h9:=HBQ.out
   rw [←hW9]
   exact Zi (HE5.out.trans HX9.out) (by simp only;omega) _)
  replace HX:=Za (show Ext w W9 by rw [←hW9];exact Zi (HX.out.trans HX9.out) (by have h9:=Zr HE5W.out;have h8:=HBQ.out;simp only;omega) _)
  replace HMM:=Za (hW9 ▸ secs_set (j:=6) (v := .slice A9 2 c9) (HMM.out.ext HX9.out) (show B+1+1≠gm by omega):Secs W9 (some ⟨gm,0,none⟩) 21 (List.replicate 21 sec0))
  have HTW:=Za (hW9 ▸ HV9.out.keep (w':=w'.setCell ⟨B+1+1,6,none⟩ (.slice A9 2 c9)) (by simp) (fun b off e o=>Zj _ _ _ _ (fun e2=>by have h8:=hg9 (by omega) b off e;have h7:=K5.out.lt;injection e2;simp at h8;omega)))
  clear f0 f1 f2 f3 f4 f5 f6 f7 f8 hW9
  have HGA:=Za (fun b off (e:A9=some ⟨b,off,none⟩)=>(show B+1+1+1+1+1<b by have h8:=hg9 (by omega) b off e;have h7:=HZ8.out;simp at h8;omega))
  clear HX9 HV9 hg9
  clear w'
  revert A9 c9 W9
  exact KK.2
 intro A9 c9 W9 k0 k1 k2 k3 k4 k5 he5 hx hmm htw hga
 replace K0:=k0
 replace K1:=k1
 replace K2:=k2
 replace K3:=k3
 replace K4:=k4
 replace K5:=k5
 replace HE5:=he5
 replace HX:=hx
 replace HMM:=hmm
 have HTW:=htw
 have HGA:=hga
 clear k0 k1 k2 k3 k4 k5 he5 hx hmm htw hga
 obtain ⟨f0,f1,f2,f3,f4,f5,f6,f7,f8⟩:=K3.out.f
 have HZ9:=Za K5.out.lt
 go_upto_region 13 with fail
 obtain ⟨W10,hW10⟩:∃W,(W9.setCell ⟨B+1+1+1,5,none⟩ (.slice (some ⟨W9.heap.size,0,none⟩) 2 2)).alloc (.cells #[.string ⟨#[99]⟩,.int .i64 1,.string ⟨#[99]⟩,.int .i64 2] 61)=W:=⟨_,rfl⟩
 rw [hW10]
 have hp:Ext (W9.setCell ⟨B+1+1+1,5,none⟩ (.slice (some ⟨W9.heap.size,0,none⟩) 2 2)) W10:=hW10 ▸ (Zd _).alloc _
 have k0:=(K0.out.other (by omega)).ext hp
 have k1:=(K1.out.other (by omega)).ext hp
 have k2:=(K2.out.other (by omega)).ext hp
 have k3:=(K3.out.set5 (.slice (some ⟨W9.heap.size,0,none⟩) 2 2)).ext hp
 have k4:=(K4.out.other (by omega)).ext hp
 have k5:=(K5.out.other (by omega)).ext hp
 replace K0:=Za k0
 replace K1:=Za k1
 replace K2:=Za k2
 replace K3:=Za k3
 replace K4:=Za k4
 replace K5:=Za k5
 clear k0 k1 k2 k3 k4 k5
 replace HE5:=Za (Zb (show Ext wp5 (W9.setCell ⟨B+1+1+1,5,none⟩ (.slice (some ⟨W9.heap.size,0,none⟩) 2 2)) from Zi HE5.out (by have h9:=HBQ.out;first | omega | (simp only;omega)) _) hp)
 replace HX:=Za (Zb (show Ext w (W9.setCell ⟨B+1+1+1,5,none⟩ (.slice (some ⟨W9.heap.size,0,none⟩) 2 2)) from Zi HX.out (by have h9:=Zr HE5W.out;have h8:=HBQ.out;first | omega | (simp only;omega)) _) hp)
 replace HMM:=Za ((secs_set (j:=5) (v := .slice (some ⟨W9.heap.size,0,none⟩) 2 2) HMM.out (by have h9:=HGM.out.1;omega)).ext hp:Secs W10 (some ⟨gm,0,none⟩) 21 (List.replicate 21 sec0))
 replace HTW:=Za ((Vec.keep (w':=(W9.setCell ⟨B+1+1+1,5,none⟩ (.slice (some ⟨W9.heap.size,0,none⟩) 2 2))) HTW.out (by simp) (fun b off e o=>Zj _ _ _ _ (fun e2=>by have h8:=HGA.out b off e;injection e2;omega))).ext hp)
 have HZ10:=Za K5.out.lt
 have HST:=Za (hW10 ▸ Vec.lit2 (S:=shStf) (L:=[⟨[99],1⟩,⟨[99],2⟩]) (by simp) rfl rfl:Vec shStf W10 (some ⟨W9.heap.size,0,none⟩) 2 [⟨[99],1⟩,⟨[99],2⟩])
 clear hW10 hp f0 f1 f2 f3 f4 f5 f6 f7 f8
 obtain ⟨f0,f1,f2,f3,f4,f5,f6,f7,f8⟩:=K4.out.f
 go_upto_region 14 with fail
 obtain ⟨W11,hW11⟩:∃W,(W10.setCell ⟨B+1+1+1+1,5,none⟩ (.slice (some ⟨W10.heap.size,0,none⟩) 1 1)).alloc (.cells #[.string ⟨#[99]⟩,.int .i64 0] 61)=W:=⟨_,rfl⟩
 rw [hW11]
 have hp:Ext (W10.setCell ⟨B+1+1+1+1,5,none⟩ (.slice (some ⟨W10.heap.size,0,none⟩) 1 1)) W11:=hW11 ▸ (Zd _).alloc _
 have k0:=(K0.out.other (by omega)).ext hp
 have k1:=(K1.out.other (by omega)).ext hp
 have k2:=(K2.out.other (by omega)).ext hp
 have k3:=(K3.out.other (by omega)).ext hp
 have k4:=(K4.out.set5 (.slice (some ⟨W10.heap.size,0,none⟩) 1 1)).ext hp
 have k5:=(K5.out.other (by omega)).ext hp
 replace K0:=Za k0
 replace K1:=Za k1
 replace K2:=Za k2
 replace K3:=Za k3
 replace K4:=Za k4
 replace K5:=Za k5
 clear k0 k1 k2 k3 k4 k5
 replace HE5:=Za (Zb (show Ext wp5 (W10.setCell ⟨B+1+1+1+1,5,none⟩ (.slice (some ⟨W10.heap.size,0,none⟩) 1 1)) from Zi HE5.out (by have h9:=HBQ.out;first | omega | (simp only;omega)) _) hp)
 replace HX:=Za (Zb (show Ext w (W10.setCell ⟨B+1+1+1+1,5,none⟩ (.slice (some ⟨W10.heap.size,0,none⟩) 1 1)) from Zi HX.out (by have h9:=Zr HE5W.out;have h8:=HBQ.out;first | omega | (simp only;omega)) _) hp)
 replace HMM:=Za ((secs_set (j:=5) (v := .slice (some ⟨W10.heap.size,0,none⟩) 1 1) HMM.out (by have h9:=HGM.out.1;omega)).ext hp:Secs W11 (some ⟨gm,0,none⟩) 21 (List.replicate 21 sec0))
 replace HTW:=Za ((Vec.keep (w':=(W10.setCell ⟨B+1+1+1+1,5,none⟩ (.slice (some ⟨W10.heap.size,0,none⟩) 1 1))) HTW.out (by simp) (fun b off e o=>Zj _ _ _ _ (fun e2=>by have h8:=HGA.out b off e;injection e2;omega))).ext hp)
 replace HST:=Za ((Vec.keep (w':=W10.setCell ⟨B+1+1+1+1,5,none⟩ (.slice (some ⟨W10.heap.size,0,none⟩) 1 1)) HST.out (by simp) (fun b off e o=>Zj _ _ _ _ (fun e2=>by have h8:=HZ9.out;cases e;injection e2;omega))).ext hp)
 have HZ11:=Za K5.out.lt
 have HSG:=Za (hW11 ▸ Vec.lit2 (S:=shStf) (L:=[⟨[99],0⟩]) (by simp) rfl rfl:Vec shStf W11 (some ⟨W10.heap.size,0,none⟩) 1 [⟨[99],0⟩])
 clear hW11 hp f0 f1 f2 f3 f4 f5 f6 f7 f8
 obtain ⟨f0,f1,f2,f3,f4,f5,f6,f7,f8⟩:=K5.out.f
 go_upto_region 15 with (first | (rw [field_rows];simp only [go_sem]) | (go_at_call 27;((with_reducible refine (zcz _).mono ?_);rintro e wg ⟨Ag,rfl,hqg,hrg⟩;have HRG:=Za hrg;have HQG:=Za hqg;clear hrg;obtain ⟨f0,f1,f2,f3,f4,f5,f6,f7,f8⟩:=(K5.out.ext hqg).f;clear hqg)))
 rw [field_rows]
 go_upto_region 15 with fail
 obtain ⟨W12,hW12⟩:∃W,(wg.setCell ⟨B+1+1+1+1+1,6,none⟩ (.slice (some ⟨wg.heap.size,0,none⟩) 1 1)).alloc (.cells #[.string ⟨#[98]⟩,.int .i64 3,.slice Ag 6 6] 59)=W:=⟨_,rfl⟩
 rw [hW12]
 have hp:Ext (wg.setCell ⟨B+1+1+1+1+1,6,none⟩ (.slice (some ⟨wg.heap.size,0,none⟩) 1 1)) W12:=hW12 ▸ (Zd _).alloc _
 have k0:=((K0.out.ext HQG.out).other (by omega)).ext hp
 have k1:=((K1.out.ext HQG.out).other (by omega)).ext hp
 have k2:=((K2.out.ext HQG.out).other (by omega)).ext hp
 have k3:=((K3.out.ext HQG.out).other (by omega)).ext hp
 have k4:=((K4.out.ext HQG.out).other (by omega)).ext hp
 have k5:=((K5.out.ext HQG.out).set6 (.slice (some ⟨wg.heap.size,0,none⟩) 1 1)).ext hp
 replace K0:=Za k0
 replace K1:=Za k1
 replace K2:=Za k2
 replace K3:=Za k3
 replace K4:=Za k4
 replace K5:=Za k5
 clear k0 k1 k2 k3 k4 k5
 replace HE5:=Za (Zb (show Ext wp5 (wg.setCell ⟨B+1+1+1+1+1,6,none⟩ (.slice (some ⟨wg.heap.size,0,none⟩) 1 1)) from Zi (HE5.out.trans HQG.out) (by have h9:=HBQ.out;first | omega | (simp only;omega)) _) hp)
 replace HX:=Za (Zb (show Ext w (wg.setCell ⟨B+1+1+1+1+1,6,none⟩ (.slice (some ⟨wg.heap.size,0,none⟩) 1 1)) from Zi (HX.out.trans HQG.out) (by have h9:=Zr HE5W.out;have h8:=HBQ.out;first | omega | (simp only;omega)) _) hp)
 replace HMM:=Za ((secs_set (j:=6) (v := .slice (some ⟨wg.heap.size,0,none⟩) 1 1) (HMM.out.ext HQG.out) (by have h9:=HGM.out.1;omega)).ext hp:Secs W12 (some ⟨gm,0,none⟩) 21 (List.replicate 21 sec0))
 replace HTW:=Za ((Vec.keep (w':=(wg.setCell ⟨B+1+1+1+1+1,6,none⟩ (.slice (some ⟨wg.heap.size,0,none⟩) 1 1))) (HTW.out.ext HQG.out) (by simp) (fun b off e o=>Zj _ _ _ _ (fun e2=>by have h8:=HGA.out b off e;injection e2;omega))).ext hp)
 replace HST:=Za ((Vec.keep (w':=wg.setCell ⟨B+1+1+1+1+1,6,none⟩ (.slice (some ⟨wg.heap.size,0,none⟩) 1 1)) (HST.out.ext HQG.out) (by simp) (fun b off e o=>Zj _ _ _ _ (fun e2=>by have h8:=HZ9.out;cases e;injection e2;omega))).ext hp)
 replace HSG:=Za ((Vec.keep (w':=wg.setCell ⟨B+1+1+1+1+1,6,none⟩ (.slice (some ⟨wg.heap.size,0,none⟩) 1 1)) (HSG.out.ext HQG.out) (by simp) (fun b off e o=>Zj _ _ _ _ (fun e2=>by have h8:=HZ10.out;cases e;injection e2;omega))).ext hp)
 have hgz:=Zr HQG.out
 have hrr:Rws W12 (fun _=>True) Ag 6 gvR:=HRG.out.keep (by have h7:=Zr hp;simpa using h7) fun b hb hk=>⟨trivial,fun o=>(Zm (p:=⟨b,o,none⟩) hp (by simpa using hb)).trans (Zj _ _ _ _ (fun e2=>by have h8:=HZ11.out;injection e2;omega))⟩
 have HCH:=Za (show Secs W12 (some ⟨wg.heap.size,0,none⟩) 1 [⟨[98],3,gvR⟩] from ⟨by unfold maxLen;omega,[⟨[98],3,Ag,6,6⟩],hW12 ▸ Vec.lit2 (by simp) rfl rfl,rfl,fun k hk=>by
  obtain rfl:k=0:=by simpa using hk
  exact ⟨rfl,rfl,hrr,Zf _⟩⟩)
 clear hW12 hp f0 f1 f2 f3 f4 f5 f6 f7 f8 hgz hrr
 have HTS:=Za (show Secs W12 A9 2 [⟨[98],4,gvR⟩,⟨[98],4,gvR⟩] from ⟨by unfold maxLen;omega,[⟨[98],4,A2,n2,c2⟩,⟨[98],4,A2,n2,c2⟩],HTW.out,rfl,fun k hk=>by
  rcases k with _ | _ | k
  ·exact ⟨rfl,rfl,HR2.out.ext HE5.out,HCC2.out⟩
  ·exact ⟨rfl,rfl,HR2.out.ext HE5.out,HCC2.out⟩
  ·simp only [Zk,List.length_nil] at hk;omega⟩)
 have HK:=Za (Zd W12)
 go_upto_region 16 with (first
  | (go_at_call 26;((with_reducible refine (plain_c _).mono ?_);rintro e wq ⟨gq,rfl,hqq,hsq, -⟩;have HSQ:=Za hsq;clear hsq;replace HK:=Za (HK.out.trans (Zb zx hqq:Ext _ wq));clear hqq))
  | (go_at_call 28;(first | ((with_reducible refine (pc_c none 0 _ [] _ 1 _ plSe 0 _ (Vec.none_ shStf _ none) (HSQ.out.ext zx) (by decide +kernel) (by decide +kernel) (by decide +kernel)).mono ?_);rintro e wk0 ⟨rfl,hqk0⟩;replace HK:=Za (HK.out.trans (Zb zx hqk0:Ext _ wk0));clear hqk0;obtain ⟨f0,f1,f2,f3,f4,f5,f6,f7,f8⟩:=(K0.out.ext HK.out).f) | ((with_reducible refine (pc_c none 0 _ [] _ 21 _ (List.replicate 21 sec0) 4 _ (Vec.none_ shStf _ none) (HMM.out.ext (HK.out.trans zx)) (by decide +kernel) (by decide +kernel) (by decide +kernel)).mono ?_);rintro e wk1 ⟨rfl,hqk1⟩;replace HK:=Za (HK.out.trans (Zb zx hqk1:Ext _ wk1));clear hqk1;obtain ⟨f0,f1,f2,f3,f4,f5,f6,f7,f8⟩:=(K1.out.ext HK.out).f) | ((with_reducible refine (pc_c none 0 _ [] none 0 _ [] 8 _ (Vec.none_ shStf _ none) (secs_nil _) (by decide +kernel) (by decide +kernel) (by decide +kernel)).mono ?_);rintro e wk2 ⟨rfl,hqk2⟩;replace HK:=Za (HK.out.trans (Zb zx hqk2:Ext _ wk2));clear hqk2;obtain ⟨f0,f1,f2,f3,f4,f5,f6,f7,f8⟩:=(K2.out.ext HK.out).f) | ((with_reducible refine (pc_c none 0 _ [] A9 2 _ [⟨[98],4,gvR⟩,⟨[98],4,gvR⟩] 14 _ (Vec.none_ shStf _ none) (HTS.out.ext (HK.out.trans zx)) (by decide +kernel) (by decide +kernel) (by decide +kernel)).mono ?_);rintro e wk3 ⟨rfl,hqk3⟩;replace HK:=Za (HK.out.trans (Zb zx hqk3:Ext _ wk3));clear hqk3;obtain ⟨f0,f1,f2,f3,f4,f5,f6,f7,f8⟩:=(K3.out.ext HK.out).f) | ((with_reducible refine (pc_c (some ⟨W9.heap.size,0,none⟩) 2 _ [⟨[99],1⟩,⟨[99],2⟩] (some ⟨gp3,0,none⟩) 1 _ plSe 14 _ (HST.out.ext (HK.out.trans zx)) (HP3.out.ext (Zb (Zb (HQ4.out.trans HQ5.out) HE5.out) (HK.out.trans zx))) (by decide +kernel) (by decide +kernel) (by decide +kernel)).mono ?_);rintro e wk4 ⟨rfl,hqk4⟩;replace HK:=Za (HK.out.trans (Zb zx hqk4:Ext _ wk4));clear hqk4;obtain ⟨f0,f1,f2,f3,f4,f5,f6,f7,f8⟩:=(K4.out.ext HK.out).f) | ((with_reducible refine (pc_c (some ⟨W10.heap.size,0,none⟩) 1 _ [⟨[99],0⟩] (some ⟨gp4,0,none⟩) 1 _ plSe 8 _ (HSG.out.ext (HK.out.trans zx)) (HP4.out.ext (Zb (Zb HQ5.out HE5.out) (HK.out.trans zx))) (by decide +kernel) (by decide +kernel) (by decide +kernel)).mono ?_);rintro e wk5 ⟨rfl,hqk5⟩;replace HK:=Za (HK.out.trans (Zb zx hqk5:Ext _ wk5));clear hqk5;obtain ⟨f0,f1,f2,f3,f4,f5,f6,f7,f8⟩:=(K5.out.ext HK.out).f) | ((with_reducible refine (pc_c none 0 _ [] (some ⟨wg.heap.size,0,none⟩) 1 _ [⟨[98],3,gvR⟩] 26 _ (Vec.none_ shStf _ none) (HCH.out.ext (HK.out.trans zx)) (by decide +kernel) (by decide +kernel) (by decide +kernel)).mono ?_);rintro e wk6 ⟨rfl,hqk6⟩;replace HK:=Za (HK.out.trans (Zb zx hqk6:Ext _ wk6));clear hqk6) | ((with_reducible refine (pz_c _).mono ?_);rintro e wk7 ⟨rfl,hqk7⟩;replace HK:=Za (HK.out.trans (Zb zx hqk7:Ext _ wk7));clear hqk7))))
 go_upto_region 17 with (go_at_call 27;((with_reducible refine (zcz _).mono ?_);rintro e wr ⟨Ar,rfl,hqr,hrr⟩;have HRR:=Za hrr.any;clear hrr;replace HK:=Za (HK.out.trans (Zb zx hqr:Ext _ wr));clear hqr))
 rw [field_rows]
 go_upto_region 17 with (go_at_call 10;((with_reducible refine (zaY 3 Ar 6 6 gvR _ (HRR.out.ext zx) (HG.out.ext (HX.out.trans (HK.out.trans zx)))).mono ?_);rintro e ws ⟨rfl,hqs⟩;replace HK:=Za (HK.out.trans (Zb zx hqs:Ext _ ws));clear hqs))
 rw [show rowsE 3 gvR=26 by decide +kernel]
 go_upto_region 18 with (go_at_call 10;((with_reducible refine (zaY 201 none 0 0 [] _ (Rws.none_ _ _ _) (HG.out.ext (HX.out.trans (HK.out.trans zx)))).mono ?_);rintro e wt ⟨rfl,hqt⟩;replace HK:=Za (HK.out.trans (Zb zx hqt:Ext _ wt));clear hqt))
 rw [show rowsE 201 []=8 by decide +kernel]
 have HEB:=Za (BoxC.start wh 0 Ah 0 ch)
 have HFW:=Za (((((((HQ0.out).trans HQ1.out).trans HQ2.out).trans HQ3.out).trans HQ4.out).trans HQ5.out).trans HE5.out)
 have HDW:=Za ((HD.out.trans ((Zd wh).alloc _)).trans HFW.out)
 go_wp2_with (first
  | (go_at_call 12;((with_reducible refine (rr_201 _ (HG.out.ext (HX.out.trans (HK.out.trans zx)))).mono ?_);rintro e wu ⟨Au,cu,rfl,hqu⟩;replace HK:=Za (HK.out.trans (Zb zx hqu:Ext _ wu));clear hqu;obtain ⟨l0,l1,l2,l3,l4,l5,l6,lz⟩:=(HL.out.ext (HDW.out.trans HK.out)).facts;obtain ⟨e0,e1,ez⟩:=(HEB.out.ext (HFW.out.trans HK.out)).facts))
  | (go_at_call 29;((with_reducible refine (zaS _ (HG.out.ext (HX.out.trans (HK.out.trans zx)))).mono ?_);rintro e wv ⟨rfl,hqv⟩;replace HK:=Za (HK.out.trans (Zb zx hqv:Ext _ wv));clear hqv)))
 go_ret
 exact ⟨rfl,HX.out.trans HK.out⟩
set_option maxRecDepth 100000 in
theorem patternNames_lifted (os:Os) (started:os.Started) (H:Type) (enc:TypeId×Value→H) :
  ReturnsInHanded {} Tryz.checked os 5 .any (fun w args=>(Rows.patternNamesSpec.pre enc Tryz.prog Tryz.f5 [] false w args∧laidMetH Tryz.prog [("math/bits.deBruijn32tab",Rows.laid_math_bits_deBruijn32tab),("math/bits.deBruijn64tab",Rows.laid_math_bits_deBruijn64tab),("internal/strconv.uint64pow10",Rows.laid_internal_strconv_uint64pow10),("unicode/utf8.acceptRanges",Rows.laid_unicode_utf8_acceptRanges),("strconv.ErrRange",Rows.laid_strconv_ErrRange),("strconv.ErrSyntax",Rows.laid_strconv_ErrSyntax),("unicode/utf8.first",Rows.laid_unicode_utf8_first)] w)∧sizedMet enc Tryz.prog Tryz.f5 (OpenSpec.ofChange Rows.patternNamesSpec) false w args)
   (Rows.patternNamesSpec.post enc Tryz.prog Tryz.f5 false true false false):=by
 refine zbI (C:=Tryz.checked) (X:=fun w _=>laidMetH Tryz.prog [("math/bits.deBruijn32tab",Rows.laid_math_bits_deBruijn32tab),("math/bits.deBruijn64tab",Rows.laid_math_bits_deBruijn64tab),("internal/strconv.uint64pow10",Rows.laid_internal_strconv_uint64pow10),("unicode/utf8.acceptRanges",Rows.laid_unicode_utf8_acceptRanges),("strconv.ErrRange",Rows.laid_strconv_ErrRange),("strconv.ErrSyntax",Rows.laid_strconv_ErrSyntax),("unicode/utf8.first",Rows.laid_unicode_utf8_first)] w) (fun _ _ _ hh h=>h.of_heap hh) own started (by kernel_rfl) Tryz.func5
  (ChangeSpec.witness_shaped (enc:=enc) (C:=Tryz.checked) (os:=os) (X:=fun w _=>laidMetH Tryz.prog [("math/bits.deBruijn32tab",Rows.laid_math_bits_deBruijn32tab),("math/bits.deBruijn64tab",Rows.laid_math_bits_deBruijn64tab),("internal/strconv.uint64pow10",Rows.laid_internal_strconv_uint64pow10),("unicode/utf8.acceptRanges",Rows.laid_unicode_utf8_acceptRanges),("strconv.ErrRange",Rows.laid_strconv_ErrRange),("strconv.ErrSyntax",Rows.laid_strconv_ErrSyntax),("unicode/utf8.first",Rows.laid_unicode_utf8_first)] w) false (World.laidAll Tryz.prog os [("math/bits.deBruijn32tab",Rows.laid_math_bits_deBruijn32tab),("math/bits.deBruijn64tab",Rows.laid_math_bits_deBruijn64tab),("internal/strconv.uint64pow10",Rows.laid_internal_strconv_uint64pow10),("unicode/utf8.acceptRanges",Rows.laid_unicode_utf8_acceptRanges),("strconv.ErrRange",Rows.laid_strconv_ErrRange),("strconv.ErrSyntax",Rows.laid_strconv_ErrSyntax),("unicode/utf8.first",Rows.laid_unicode_utf8_first)]) #[] 8 (World.laidAll_os _ _ _)
   (World.shaped_of_ZipB (by kernel_rfl) (by kernel_rfl)) (by kernel_rfl) (by kernel_rfl) (by kernel_rfl)
   (by rw [MakeChecks.laidMetH_plain _ _ _ (by kernel_rfl)];exact laidMet_laidAll _ (by kernel_rfl) (by kernel_rfl))) ?_
 intro W base args ds gs before hval0 hW hL hsh
 have hval:∀(j:Nat) t v,Tryz.f5.params[j]?=some t→args[j]?=some v→Value.okWide Tryz.prog W .any base t v:=hval0
 have hW':=hW
 obtain ⟨p,q,hA0,hV,rfl,hfz,hnd⟩:=hW
 have hA:DataW.TrodAll enc Tryz.prog W 0 (fun _=>true) true Tryz.f5.params.toList args.toList ds p:=hA0
 rw [Tryz.params5] at hA hval
 obtain ⟨rfl,rfl,rfl⟩:=trodAll_none hA
 obtain ⟨rfl,rfl⟩:=trodVars_none hV
 rw [MakeChecks.laidMetH_plain _ _ _ (by kernel_rfl)] at hL
 have hG:=zfM hL hsh
 refine (patternNames_walk W hG).mono fun e W' ⟨he,hg⟩=>?_
 subst he
 exact ⟨_,rfl,zd9 zd8 rfl Tryz.underlying4 (by kernel_rfl) rfl hW' rfl hg⟩
theorem patternNames_holds:Rows.PatternNamesSaid :=
 OpenClaim.holds_of_wide 5 Tryz.f5 rfl rfl rfl rfl rfl rfl rfl ⟨rfl,rfl,rfl,rfl,rfl⟩ rfl rfl rfl rfl rfl (by kernel_rfl) Tryz.func5 (by kernel_rfl)
  (of_decide_eq_true (by kernel_rfl)) (by unfold Func.isWrapper;first | (rw [if_pos (by decide +kernel)];kernel_rfl) | (rw [if_neg (by decide +kernel)];exact ⟨rfl,rfl⟩))
  (fun os started H enc _=>patternNames_lifted os started H enc)
theorem patternNames_card:Rows.PatternNamesCardSaid :=
 Claim7.holds_tied_plain_at .later [] [.data,.data,.data,.data,.sentinel,.sentinel,.pinned] true (true, "82ac2ac690227137bd2922f134a4e9e2379fe122be6281254703ee86f1f41d35") true
  patternNames_holds (fun _ h=>by cases h) (by kernel_rfl) (fun _ h=>by cases h) patternNames_row_tie rfl ⟨rfl,rfl⟩ (by kernel_rfl) rfl
  (fun f fn hf hfn=>by
   obtain rfl:f=5:=ZV ((show Tryz.prog.funcNamed "raddle/raddlelaw43.PatternNames" = some 5 by kernel_rfl).symm.trans hf) |>.symm
   obtain rfl:fn=Tryz.f5:=(ZV (Tryz.func5.symm.trans hfn)).symm
   exact ⟨by kernel_rfl,fun j t ht=>by
    rw [Tryz.params5] at ht
    simp at ht⟩)
  (by kernel_rfl)
end Go.Proofs.YtkneghkbgingdaaGreatDoor
