/- Part of a chart, both. -/
import Derived.Test.YtkneghkbgingdaaGreatDoorP50
import Derived.Test.YtkneghkbgingdaaGreatDoorP46
import Derived.Test.YtkneghkbgingdaaGreatDoorP40
import Derived.Test.YtkneghkbgingdaaGreatDoorP48
import Derived.Test.YtkneghkbgingdaaGreatDoorP49
import Derived.Test.YtkneghkbgingdaaGreatDoorP10
import Derived.Test.YtkneghkbgingdaaGreatDoorTie
namespace Go.Proofs.YtkneghkbgingdaaGreatDoor
set_option maxRecDepth 100000
open Go.RowKit Go.ChangeShapes Go.WideShapes Go.Joins
end Go.Proofs.YtkneghkbgingdaaGreatDoor
/- Section: the program's and the reference's. -/
namespace Go.Proofs.YtkneghkbgingdaaGreatDoor
set_option maxRecDepth 100000
set_option maxRecDepth 100000
open Go.RowKit Go.ChangeShapes Go.WideShapes Go.Joins
section
variable {nm name:List UInt8} {ge x:Int} {st:List Stf} {se:List Sec}
end
theorem BoxC.free {w:World} {b:Nat} {s:Int} {A:Option Addr} {n c:Nat} (h:BoxC w b s A n c) (j:Nat):w.frozen? ⟨b,j,none⟩=false:=frozen_of_row w b j _ _ h
end Go.Proofs.YtkneghkbgingdaaGreatDoor
/- ReadRows of the reference. -/
namespace Go.Proofs.YtkneghkbgingdaaGreatDoor
set_option maxRecDepth 100000
set_option maxRecDepth 100000
open Go.RowKit Go.ChangeShapes Go.WideShapes Go.Joins
theorem OwnQ.caps {w:World} {B k:Nat} {e:TypeId} {A:Option Addr} {c:Nat} {l:List Ro} (h:OwnQ w B e (.slice A k c) k l):Caps w A k:=by
 obtain ⟨xs,h1,h2,h3⟩:=h
 obtain ⟨A',c',e1,hv, -⟩:=zaf h1
 cases e1
 exact ⟨xs,hv,h3⟩
theorem zkC {s:List UInt8} {ls:List (List UInt8)} (h:cutR s=some ls):ls.length≤s.length+1∧∀k,(ls.getD k []).length≤s.length:=by
 unfold cutR at h
 split at h
 ·cases h
  exact ⟨by simp,fun k=>by simp⟩
 ·split at h
  ·cases h
  ·cases h
   have h1:=zlI 10 s.dropLast
   rw [List.length_dropLast] at h1
   refine ⟨by omega,fun k=>?_⟩
   have h2:=zf2 10 s.dropLast k
   rw [List.length_dropLast] at h2
   omega
theorem zms {at_:List UInt8→Option Int} {start:Int} {s:List UInt8} (h:cutR s=none):rdR at_ start s=none:=by
 unfold rdR
 rw [h]
 split <;> rfl
theorem ziy {at_:List UInt8→Option Int} {start:Int} {s:List UInt8} {ls:List (List UInt8)} (h:cutR s=some ls) (h2:linesR at_ ls []=none):rdR at_ start s=none:=by
 unfold rdR
 rw [h,Option.bind_some,h2]
 split <;> rfl
theorem zl1 {at_:List UInt8→Option Int} {start:Int} {s:List UInt8} {ls:List (List UInt8)} {l:List Ro} (h0:¬60000<s.length) (h:cutR s=some ls) (h2:linesR at_ ls []=some l):rdR at_ start s=if rowsE start l=0∧rowsV start l=s then some l else none:=by
 rw [rdR,if_neg h0,h,Option.bind_some,h2]
 rfl
set_option maxHeartbeats 8000000 in
theorem zi4 (start:Int) (s:List UInt8) (hs:s.length≤10000) (w:World):Calls Tryz.prog 13 #[.int .i64 start,.string ⟨s.toArray⟩] w (RdR start s w):=by
 have hlen:¬(60000:Int)<(s.length:Int):=by omega
 have heq:∀x,rdR atoiO start s=x→rdP atoiO start s=x:=fun x h=>by rw [←zny zmZ];exact h
 have HCU:=Lib.hid (fun (w':World)=>zlc s (by omega) w')
 have HB0:=Lib.hid (BoxC.start w 0 none 0 0)
 have HW0:=Lib.hid (show Ext w (w.alloc (.cells #[.int .i64 0,.slice none 0 0] 24)) from (Ext.refl w).alloc _)
 cases hc:cutR s with
 | none =>
  have HN:=Lib.hid (heq _ (zms hc))
  have HCN:=Lib.hid (show ∀(w':World),Calls Tryz.prog 47 #[.string ⟨s.toArray⟩] w' fun e w''=>(∃(A:Option Addr) (n c:Nat),e = .returned (.tuple #[.slice A n c,.bool false]))∧Ext w' w'' from fun w'=>by
   refine (HCU.out w').mono ?_
   rintro e w9 ⟨A,n,c,ok,rfl,hb,⟨_,rfl⟩ | ⟨ls,h2,_⟩⟩
   ·exact ⟨⟨A,n,c,rfl⟩,hb⟩
   ·rw [hc] at h2;cases h2)
  clear HCU hc heq
  go_enter Tryz.func13,Tryz.ntmps13
  go_wp2_with (first
   | (go_at_call 47;((with_reducible refine (HCN.out _).mono ?_);rintro e w1 ⟨⟨A1,n1,c1,rfl⟩,hq1⟩;have HQ1:=Lib.hid (by repeat (first|exact zr _|assumption|refine za ?_ _|refine zd ?_|refine zn ?_ _|refine zt ?_ (by assumption)):Ext (w.alloc (.cells #[.int .i64 0,.slice none 0 0] 24)) w1);obtain ⟨x0,x1,xz⟩:=(HB0.out.ext HQ1.out).facts;have x2:=(HB0.out.ext HQ1.out).free)))
  obtain ⟨y0,y1⟩:=zaQ (v0 := .int .i64 0) (v1 := .slice none 0 0) x0 x1
  exact bodyPost_ret (v := .tuple #[.agg #[.int .i64 0,.slice none 0 0],.int .i64 12]) (by simp [results,Tryz.f13,go_sem,y0,y1]) rfl (RdR.no HN.out (Below.setCell (Below.setCell (HW0.out.trans HQ1.out) (by simp) _) (by simp) _))
 | some ls =>
  obtain ⟨hl1,hl2⟩:=zkC hc
  have hln:=fun h=>heq _ (ziy (at_:=atoiO) (start:=start) hc h)
  have hfn:=fun l h=>heq _ (zl1 (at_:=atoiO) (start:=start) (l:=l) (by omega) hc h)
  have HCN:=Lib.hid (show ∀(w':World),Calls Tryz.prog 47 #[.string ⟨s.toArray⟩] w' fun e w''=>∃(A:Option Addr) (c:Nat),e = .returned (.tuple #[.slice A ls.length c,.bool true])∧Ext w' w''∧Vec shStr w'' A ls.length ls from fun w'=>by
   refine (HCU.out w').mono ?_
   rintro e w9 ⟨A,n,c,ok,rfl,hb,⟨h2,_⟩ | ⟨ls',h2,rfl,h3,_⟩⟩
   ·rw [hc] at h2;cases h2
   ·rw [hc] at h2
    cases h2
    obtain rfl:=h3.1
    exact ⟨A,c,rfl,hb,h3⟩)
  have HLI:=Lib.hid (fun (A:Option Addr) (c:Nat) (w':World) (h:Vec shStr w' A ls.length ls)=>zhB A ls.length c ls w' h (by omega) (fun k _=>by have:=hl2 k;omega))
  clear HCU hc heq hl1 hl2
  have HBC:=Lib.hid (fun (w':World) (A:Option Addr) (n c:Nat)=>BoxC.start w' start A n c)
  cases hr:linesR atoiO ls [] with
  | none =>
   have HN:=Lib.hid (hln hr)
   have HLN:=Lib.hid (show ∀(A:Option Addr) (c:Nat) (w':World),Vec shStr w' A ls.length ls→Calls Tryz.prog 48 #[.slice A ls.length c] w' fun e w''=>e = .returned (.tuple #[.slice none 0 0,.bool false])∧Ext w' w'' from fun A c w' h=>by
    refine (HLI.out A c w' h).mono ?_
    rintro e w9 ⟨V,ok,rfl,hb,⟨_,rfl,rfl⟩ | ⟨l,h2,_⟩⟩
    ·exact ⟨rfl,hb⟩
    ·rw [hr] at h2;cases h2)
   clear hln hfn hr HLI
   have HRR:=Lib.hid (fun (w':World)=>zc9 start none 0 0 [] w' (Rws.none_ _ _ _) (Caps.none_ _ _))
   unfold PRowsR at HRR
   obtain ⟨V,hV⟩:∃V,rowsV start []=V:=⟨_,rfl⟩
   obtain ⟨E,hE⟩:∃E,rowsE start []=E:=⟨_,rfl⟩
   rw [hV,hE] at HRR
   clear hV hE
   go_enter Tryz.func13,Tryz.ntmps13
   go_wp2_with (first
    | (go_at_call 47;((with_reducible refine (HCN.out _).mono ?_);rintro e w1 ⟨A1,c1,rfl,hq1,hv1⟩;have HV1:=Lib.hid hv1;clear hv1;have HQ1:=Lib.hid (by repeat (first|exact zr _|assumption|refine za ?_ _|refine zd ?_|refine zn ?_ _|refine zt ?_ (by assumption)):Ext (w.alloc (.cells #[.int .i64 0,.slice none 0 0] 24)) w1)))
    | (go_at_call 48;((with_reducible refine (HLN.out _ _ _ (HV1.out.ext (by repeat (first|exact zr _|assumption|refine za ?_ _|refine zd ?_|refine zn ?_ _|refine zt ?_ (by assumption))))).mono ?_);rintro e w2 ⟨rfl,hq2⟩;have hx2:=(by repeat (first|exact zr _|assumption|refine za ?_ _|refine zd ?_|refine zn ?_ _|refine zt ?_ (by assumption)):Ext w1 w2);have HQ2:=Lib.hid (HQ1.out.trans hx2)))
    | (go_at_call 11;((with_reducible refine (HRR.out _).mono ?_);rintro e w3 ⟨rfl,hq3⟩;have hx3:=(by repeat (first|exact zr _|assumption|refine za ?_ _|refine zd ?_|refine zn ?_ _|refine zt ?_ (by assumption)):Ext w2 w3);have HQ3:=Lib.hid (HQ2.out.trans hx3);obtain ⟨x0,x1,xz⟩:=(HB0.out.ext HQ3.out).facts;have x2:=(HB0.out.ext HQ3.out).free)))
   obtain ⟨y0,y1⟩:=zaQ (v0 := .int .i64 0) (v1 := .slice none 0 0) x0 x1
   exact bodyPost_ret (v := .tuple #[.agg #[.int .i64 0,.slice none 0 0],.int .i64 12]) (by simp [results,Tryz.f13,go_sem,y0,y1]) rfl (RdR.no HN.out (Below.setCell (Below.setCell (HW0.out.trans HQ3.out) (by simp) _) (by simp) _))
  | some l =>
   have HEQ:=hfn l hr
   have HLN:=Lib.hid (show ∀(A:Option Addr) (c:Nat) (w':World),Vec shStr w' A ls.length ls→Calls Tryz.prog 48 #[.slice A ls.length c] w' fun e w''=>∃(A2:Option Addr) (c2:Nat),e = .returned (.tuple #[.slice A2 l.length c2,.bool true])∧Ext w' w''∧Rws w'' (fun b=>w'.heap.size≤b) A2 l.length l∧Caps w'' A2 l.length from fun A c w' h=>by
    refine (HLI.out A c w' h).mono ?_
    rintro e w9 ⟨V,ok,rfl,hb,⟨h2,_⟩ | ⟨l',h2,h3,rfl,ho⟩⟩
    ·rw [hr] at h2;cases h2
    ·rw [hr] at h2
     cases h2
     obtain ⟨A2,c2,rfl,hrw⟩:=zbb ho (by omega)
     exact ⟨A2,c2,rfl,hb,hrw,ho.caps⟩)
   have HRR:=Lib.hid (fun (A:Option Addr) (c:Nat) (w':World) (h:Rws w' (fun _=>True) A l.length l) (h2:Caps w' A l.length)=>zc9 start A l.length c l w' h h2)
   unfold PRowsR at HRR
   obtain ⟨T,hV⟩:∃V,rowsV start l=V:=⟨_,rfl⟩
   obtain ⟨E,hE⟩:∃E,rowsE start l=E:=⟨_,rfl⟩
   rw [hV,hE] at HRR HEQ
   clear hV hE hln hfn hr HLI
   by_cases hE0:E=0
   ·subst hE0
    by_cases hT0:T=s
    ·have HCP:=Lib.hid (HEQ.trans (if_pos ⟨rfl,hT0⟩))
     have hTe:(T==s)=true:=by simpa using hT0
     have hTe2:(T != s)=false:=by simpa using hT0
     clear HEQ hT0
     go_enter Tryz.func13,Tryz.ntmps13
     go_wp2_with (first
      | (go_at_call 47;((with_reducible refine (HCN.out _).mono ?_);rintro e w1 ⟨A1,c1,rfl,hq1,hv1⟩;have HV1:=Lib.hid hv1;clear hv1;have HQ1:=Lib.hid (by repeat (first|exact zr _|assumption|refine za ?_ _|refine zd ?_|refine zn ?_ _|refine zt ?_ (by assumption)):Ext (w.alloc (.cells #[.int .i64 0,.slice none 0 0] 24)) w1)))
      | (go_at_call 48;((with_reducible refine (HLN.out _ _ _ (HV1.out.ext (by repeat (first|exact zr _|assumption|refine za ?_ _|refine zd ?_|refine zn ?_ _|refine zt ?_ (by assumption))))).mono ?_);rintro e w2 ⟨A2,c2,rfl,hq2,hr2,hk2⟩;have hx2:=(by repeat (first|exact zr _|assumption|refine za ?_ _|refine zd ?_|refine zn ?_ _|refine zt ?_ (by assumption)):Ext w1 w2);have HQ2:=Lib.hid (HQ1.out.trans hx2);have HR2:=Lib.hid (hr2.mono (K':=fun b=>w.heap.size+1≤b) (fun b _ hk=>by have h8:=Below.size HQ1.out;simp at h8;have h9:=Below.size hx2;have hk3:_≤b:=hk;omega));have HK2:=Lib.hid hk2;clear hr2 hk2;have HX2:=Lib.hid (BoxC.start w2 start A2 l.length c2)))
      | (go_at_call 11;((with_reducible refine (HRR.out _ _ _ (HR2.out.any.ext (by repeat (first|exact zr _|assumption|refine za ?_ _|refine zd ?_|refine zn ?_ _|refine zt ?_ (by assumption)))) (HK2.out.ext (by repeat (first|exact zr _|assumption|refine za ?_ _|refine zd ?_|refine zn ?_ _|refine zt ?_ (by assumption))))).mono ?_);rintro e w3 ⟨rfl,hq3⟩;have hx3:=(by repeat (first|exact zr _|assumption|refine za ?_ _|refine zd ?_|refine zn ?_ _|refine zt ?_ (by assumption)):Ext w2 w3);have HQ23:=Lib.hid hx3;have HQ3:=Lib.hid (HQ2.out.trans HQ23.out);obtain ⟨x0,x1,xz⟩:=(HB0.out.ext HQ3.out).facts;have x2:=(HB0.out.ext HQ3.out).free;obtain ⟨z0,z1,zz⟩:=(HX2.out.ext (hq3:Ext _ w3)).facts)))
     have HR9:=Lib.hid (zit (g:=w.heap.size) (v0 := .int .i64 start) (v1 := .slice A2 l.length c2) (HR2.out.ext HQ23.out) (B':=w.heap.size) (by omega) (by omega))
     obtain ⟨y0,y1⟩:=zaQ (v0 := .int .i64 start) (v1 := .slice A2 l.length c2) x0 x1
     exact bodyPost_ret (v := .tuple #[.agg #[.int .i64 start,.slice A2 l.length c2],.int .i64 0]) (by simp [results,Tryz.f13,go_sem,y0,y1]) rfl (RdR.yes HCP.out (Below.setCell (Below.setCell (HW0.out.trans HQ3.out) (by simp) _) (by simp) _) HR9.out)
    ·have HCP:=Lib.hid (HEQ.trans (if_neg (fun h=>hT0 h.2)))
     have hTe:(T==s)=false:=by simpa using hT0
     have hTe2:(T != s)=true:=by simpa using hT0
     clear HEQ hT0
     go_enter Tryz.func13,Tryz.ntmps13
     go_wp2_with (first
      | (go_at_call 47;((with_reducible refine (HCN.out _).mono ?_);rintro e w1 ⟨A1,c1,rfl,hq1,hv1⟩;have HV1:=Lib.hid hv1;clear hv1;have HQ1:=Lib.hid (by repeat (first|exact zr _|assumption|refine za ?_ _|refine zd ?_|refine zn ?_ _|refine zt ?_ (by assumption)):Ext (w.alloc (.cells #[.int .i64 0,.slice none 0 0] 24)) w1)))
      | (go_at_call 48;((with_reducible refine (HLN.out _ _ _ (HV1.out.ext (by repeat (first|exact zr _|assumption|refine za ?_ _|refine zd ?_|refine zn ?_ _|refine zt ?_ (by assumption))))).mono ?_);rintro e w2 ⟨A2,c2,rfl,hq2,hr2,hk2⟩;have hx2:=(by repeat (first|exact zr _|assumption|refine za ?_ _|refine zd ?_|refine zn ?_ _|refine zt ?_ (by assumption)):Ext w1 w2);have HQ2:=Lib.hid (HQ1.out.trans hx2);have HR2:=Lib.hid (hr2.mono (K':=fun b=>w.heap.size+1≤b) (fun b _ hk=>by have h8:=Below.size HQ1.out;simp at h8;have h9:=Below.size hx2;have hk3:_≤b:=hk;omega));have HK2:=Lib.hid hk2;clear hr2 hk2;have HX2:=Lib.hid (BoxC.start w2 start A2 l.length c2)))
      | (go_at_call 11;((with_reducible refine (HRR.out _ _ _ (HR2.out.any.ext (by repeat (first|exact zr _|assumption|refine za ?_ _|refine zd ?_|refine zn ?_ _|refine zt ?_ (by assumption)))) (HK2.out.ext (by repeat (first|exact zr _|assumption|refine za ?_ _|refine zd ?_|refine zn ?_ _|refine zt ?_ (by assumption))))).mono ?_);rintro e w3 ⟨rfl,hq3⟩;have hx3:=(by repeat (first|exact zr _|assumption|refine za ?_ _|refine zd ?_|refine zn ?_ _|refine zt ?_ (by assumption)):Ext w2 w3);have HQ23:=Lib.hid hx3;have HQ3:=Lib.hid (HQ2.out.trans HQ23.out);obtain ⟨x0,x1,xz⟩:=(HB0.out.ext HQ3.out).facts;have x2:=(HB0.out.ext HQ3.out).free;obtain ⟨z0,z1,zz⟩:=(HX2.out.ext (hq3:Ext _ w3)).facts)))
     obtain ⟨y0,y1⟩:=zaQ (v0 := .int .i64 0) (v1 := .slice none 0 0) x0 x1
     exact bodyPost_ret (v := .tuple #[.agg #[.int .i64 0,.slice none 0 0],.int .i64 12]) (by simp [results,Tryz.f13,go_sem,y0,y1]) rfl (RdR.no HCP.out (Below.setCell (Below.setCell (HW0.out.trans HQ3.out) (by simp) _) (by simp) _))
   ·have HCP:=Lib.hid (HEQ.trans (if_neg (fun h=>hE0 h.1)))
    have hEe:(E != 0)=true:=by simpa using hE0
    clear HEQ hE0
    go_enter Tryz.func13,Tryz.ntmps13
    go_wp2_with (first
     | (go_at_call 47;((with_reducible refine (HCN.out _).mono ?_);rintro e w1 ⟨A1,c1,rfl,hq1,hv1⟩;have HV1:=Lib.hid hv1;clear hv1;have HQ1:=Lib.hid (by repeat (first|exact zr _|assumption|refine za ?_ _|refine zd ?_|refine zn ?_ _|refine zt ?_ (by assumption)):Ext (w.alloc (.cells #[.int .i64 0,.slice none 0 0] 24)) w1)))
     | (go_at_call 48;((with_reducible refine (HLN.out _ _ _ (HV1.out.ext (by repeat (first|exact zr _|assumption|refine za ?_ _|refine zd ?_|refine zn ?_ _|refine zt ?_ (by assumption))))).mono ?_);rintro e w2 ⟨A2,c2,rfl,hq2,hr2,hk2⟩;have hx2:=(by repeat (first|exact zr _|assumption|refine za ?_ _|refine zd ?_|refine zn ?_ _|refine zt ?_ (by assumption)):Ext w1 w2);have HQ2:=Lib.hid (HQ1.out.trans hx2);have HR2:=Lib.hid (hr2.mono (K':=fun b=>w.heap.size+1≤b) (fun b _ hk=>by have h8:=Below.size HQ1.out;simp at h8;have h9:=Below.size hx2;have hk3:_≤b:=hk;omega));have HK2:=Lib.hid hk2;clear hr2 hk2;have HX2:=Lib.hid (BoxC.start w2 start A2 l.length c2)))
     | (go_at_call 11;((with_reducible refine (HRR.out _ _ _ (HR2.out.any.ext (by repeat (first|exact zr _|assumption|refine za ?_ _|refine zd ?_|refine zn ?_ _|refine zt ?_ (by assumption)))) (HK2.out.ext (by repeat (first|exact zr _|assumption|refine za ?_ _|refine zd ?_|refine zn ?_ _|refine zt ?_ (by assumption))))).mono ?_);rintro e w3 ⟨rfl,hq3⟩;have hx3:=(by repeat (first|exact zr _|assumption|refine za ?_ _|refine zd ?_|refine zn ?_ _|refine zt ?_ (by assumption)):Ext w2 w3);have HQ23:=Lib.hid hx3;have HQ3:=Lib.hid (HQ2.out.trans HQ23.out);obtain ⟨x0,x1,xz⟩:=(HB0.out.ext HQ3.out).facts;have x2:=(HB0.out.ext HQ3.out).free;obtain ⟨z0,z1,zz⟩:=(HX2.out.ext (hq3:Ext _ w3)).facts)))
    obtain ⟨y0,y1⟩:=zaQ (v0 := .int .i64 0) (v1 := .slice none 0 0) x0 x1
    exact bodyPost_ret (v := .tuple #[.agg #[.int .i64 0,.slice none 0 0],.int .i64 12]) (by simp [results,Tryz.f13,go_sem,y0,y1]) rfl (RdR.no HCP.out (Below.setCell (Below.setCell (HW0.out.trans HQ3.out) (by simp) _) (by simp) _))
end Go.Proofs.YtkneghkbgingdaaGreatDoor
/- What the rows' listed variables give. -/
namespace Go.Proofs.YtkneghkbgingdaaGreatDoor
set_option maxRecDepth 100000
set_option maxRecDepth 100000
open Go.ChangeShapes Go.WideShapes Go.ChangeAt Go.RowKit
theorem zgh : "*" ++ "errors.errorString" = "*errors.errorString" := by decide
theorem ziz (u:TypeId) (h:Tryz.prog.typeName? 3 u=some "*errors.errorString"):u=260 :=
 typeName_ptr_named (nm := "errors.errorString") (by rw [zgh];kernel_rfl) (by kernel_rfl) (by decide) u (by rw [zgh];exact h)
theorem zmK:Rows.laid_internal_strconv_uint64pow10 (H:=Unit)=Lib.tabData .u64 Lib.pow10Tab:=by rfl
theorem zlZ {W:World} (hL:laidMet Tryz.prog [("math/bits.deBruijn32tab",Rows.laid_math_bits_deBruijn32tab),("math/bits.deBruijn64tab",Rows.laid_math_bits_deBruijn64tab),("internal/strconv.uint64pow10",Rows.laid_internal_strconv_uint64pow10),("unicode/utf8.acceptRanges",Rows.laid_unicode_utf8_acceptRanges),("strconv.ErrRange",Rows.laid_strconv_ErrRange),("strconv.ErrSyntax",Rows.laid_strconv_ErrSyntax),("unicode/utf8.first",Rows.laid_unicode_utf8_first)] W) (hsh:W.ShapedOpen Tryz.prog):Glob W:=by
 have h1:=laidMet.tail (laidMet.tail hL)
 have h2:=laidMet.tail (laidMet.tail h1)
 have h3:=laidMet.tail h2
 rw [zmK] at h1
 refine ⟨Lib.tabIs_of_head (g:=1) (t:=221) (e:=179) (n:=20) (by kernel_rfl) (by kernel_rfl) (by kernel_rfl) (by kernel_rfl) (by kernel_rfl) (by kernel_rfl) h1,?_,?_,Tryz.laysM146.s1_3 W hsh⟩
 ·obtain ⟨a,s,h, -⟩:=laid_sentinel (g:=2) (ti:=83) (tp:=260) (te:=262) (ts:=9) h3 (by kernel_rfl) (by kernel_rfl) Tryz.underlying83 ziz (by kernel_rfl) Tryz.underlying262 rfl rfl (by kernel_rfl) (by kernel_rfl) (by kernel_rfl)
  exact ⟨_,_,h⟩
 ·obtain ⟨a,s,h, -⟩:=laid_sentinel (g:=3) (ti:=83) (tp:=260) (te:=262) (ts:=9) h2 (by kernel_rfl) (by kernel_rfl) Tryz.underlying83 ziz (by kernel_rfl) Tryz.underlying262 rfl rfl (by kernel_rfl) (by kernel_rfl) (by kernel_rfl)
  exact ⟨_,_,h⟩
end Go.Proofs.YtkneghkbgingdaaGreatDoor
