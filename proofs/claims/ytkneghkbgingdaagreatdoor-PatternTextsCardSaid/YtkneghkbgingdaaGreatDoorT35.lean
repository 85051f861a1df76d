/- The reference's table of choices: how it lies in memory. -/
import Derived.Test.YtkneghkbgingdaaGreatDoorT15
set_option maxHeartbeats 16000000
namespace Go.Proofs.YtkneghkbgingdaaGreatDoor
set_option maxRecDepth 100000
open Go.RowKit Go.ChangeShapes Go.WideShapes Go.Joins
def chc (c:Chc):List Value:=[.int .i64 (c.size:Nat),.int .i64 (c.period:Nat),.int .i64 (c.part:Nat)]
def shCh:Shp Chc where
 size:=3
 cells:=chc
 pos:=by omega
 len _:=rfl
 one p u h:=by
  simp [chc] at h
  rcases h with h | h | h <;> subst h <;> rfl
abbrev Hdr:Type:=Option Addr×Nat×Nat
def shHd:Shp Hdr where
 size:=1
 cells h:=[.slice h.1 h.2.1 h.2.2]
 pos:=by omega
 len _:=rfl
 one p u h:=by
  simp at h
  subst h
  rfl
def tabRow (l:List St) (r:Nat):List Chc:=if r=0 then List.replicate (l.length+1) ⟨0,0,0⟩ else (List.range (l.length+1-r)).map (fun i=>ch (sub l i r))
theorem zjg {l:List St} {r i:Nat} (hr:1<=r) (hi:i+r<=l.length):(tabRow l r)[i]?=some (ch (sub l i r)):=by
 unfold tabRow
 rw [if_neg (by omega),List.getElem?_map,List.getElem?_range (by omega)]
 rfl
def TbR (w:World) (A:Option Addr) (k:Nat) (l:List St):Prop:=∃H:List Hdr,Vec shHd w A k H/\∀r x,H[r]?=some x->Vec shCh w x.1 x.2.1 (tabRow l r)
theorem TbR.ext {w w':World} {A:Option Addr} {k:Nat} {l:List St} (h:TbR w A k l) (hb:Ext w w'):TbR w' A k l:=by
 obtain ⟨H,h1,h2⟩:=h
 exact ⟨H,h1.ext hb,fun r x hx=>(h2 r x hx).ext hb⟩
theorem TbR.get {w:World} {A:Option Addr} {k r i:Nat} {l:List St} {x:Chc} (h:TbR w A k l) (hk:r<k) (hx0:(tabRow l r)[i]?=some x) :
  ∃b off b' off' n' c',A=some ⟨b,off,none⟩/\b<w.heap.size/\w.cell? ⟨b,off+r,none⟩=some (.slice (some ⟨b',off',none⟩) n' c')/\i<n'/\b'<w.heap.size /\
   w.cell? ⟨b',off'+i*3,none⟩=some (.int .i64 (x.size:Nat))/\w.cell? ⟨b',off'+i*3+1,none⟩=some (.int .i64 (x.period:Nat))/\w.cell? ⟨b',off'+i*3+2,none⟩=some (.int .i64 (x.part:Nat)):=by
 obtain ⟨H,h1,h2⟩:=h
 obtain ⟨b,off,rfl,hb,hc⟩:=h1.2 (by omega)
 have hl:=h1.1
 have hx:H[r]?=some (H[r]'(by omega)):=Zd (by omega)
 generalize H[r]'(by omega)=y at hx
 obtain ⟨A',n',c'⟩:=y
 have h3:=h2 r _ hx
 have h4:w.cell? ⟨b,off+(r*1+0),none⟩=some (.slice A' n' c'):=hc r _ hx 0 _ rfl
 rw [Nat.mul_one,Nat.add_zero] at h4
 have h5:(tabRow l r).length=n':=h3.1
 have h6:=(ZK.1 hx0).1
 obtain ⟨b',off',e,ab,aa⟩:=h3.2 (by show 0<n';omega)
 simp only at e
 subst e
 exact ⟨b,off,b',off',n',c',rfl,hb,h4,by omega,ab,aa i _ hx0 0 _ rfl,aa i _ hx0 1 _ rfl,aa i _ hx0 2 _ rfl⟩
theorem TbR.at_ {w:World} {A:Option Addr} {k r i:Nat} {l:List St} (h:TbR w A k l) (hr:1<=r) (hk:r<k) (hi:i+r<=l.length) :
  ∃b off b' off' n' c',A=some ⟨b,off,none⟩/\b<w.heap.size/\w.cell? ⟨b,off+r,none⟩=some (.slice (some ⟨b',off',none⟩) n' c')/\i<n'/\b'<w.heap.size /\
   w.cell? ⟨b',off'+i*3,none⟩=some (.int .i64 ((ch (sub l i r)).size:Nat))/\w.cell? ⟨b',off'+i*3+1,none⟩=some (.int .i64 ((ch (sub l i r)).period:Nat))/\w.cell? ⟨b',off'+i*3+2,none⟩=some (.int .i64 ((ch (sub l i r)).part:Nat)) :=
 h.get hk (zjg hr hi)
def TbO (w:World) (B:Nat) (e:TypeId) (v:Value) (k:Nat) (l:List St):Prop :=
 ∃H:List Hdr,OwnV shHd w B e v k H/\∀r x,H[r]?=some x->Vec shCh w x.1 x.2.1 (tabRow l r)/\∀b off,x.1=some ⟨b,off,none⟩->0<x.2.1->B<=b/\some b≠v.ownBlock
theorem TbO.ext {w w':World} {B k:Nat} {e:TypeId} {v:Value} {l:List St} (h:TbO w B e v k l) (hb:Ext w w'):TbO w' B e v k l:=by
 obtain ⟨H,h1,h2⟩:=h
 exact ⟨H,h1.ext hb,fun r x hx=>⟨(h2 r x hx).1.ext hb,(h2 r x hx).2⟩⟩
theorem TbO.read {w:World} {B k:Nat} {e:TypeId} {v:Value} {l:List St} (h:TbO w B e v k l):∃A c,v = .slice A k c/\TbR w A k l:=by
 obtain ⟨H,h1,h2⟩:=h
 obtain ⟨A,c,e1,h3⟩:=zav h1
 exact ⟨A,c,e1,H,h3,fun r x hx=>(h2 r x hx).1⟩
theorem TbO.push {wx w1:World} {B k:Nat} {e:TypeId} {v v':Value} {l:List St} {A:Option Addr} {n c:Nat} {H:List Hdr}
  (h2:∀r x,H[r]?=some x->Vec shCh wx x.1 x.2.1 (tabRow l r)/\∀b off,x.1=some ⟨b,off,none⟩->0<x.2.1->B<=b/\some b≠v.ownBlock) (hk:H.length=k)
  (hr:Vec shCh wx A n (tabRow l k)) (hb:∀b off,A=some ⟨b,off,none⟩->0<n->B<=b/\some b≠v.ownBlock) (hg:wx.grownBy w1 v.ownBlock) (hv:v'.ownBlock=v.ownBlock∨v'.ownBlock=some wx.heap.size)
  (h1:OwnV shHd w1 B e v' (k+1) (H++[(A,n,c)])):TbO w1 B e v' (k+1) l:=by
 have key:∀ {A:Option Addr} {n:Nat} {L:List Chc},Vec shCh wx A n L->(∀b off,A=some ⟨b,off,none⟩->0<n->B<=b/\some b≠v.ownBlock)->Vec shCh w1 A n L/\∀b off,A=some ⟨b,off,none⟩->0<n->B<=b/\some b≠v'.ownBlock:=by
  intro A n L h hx
  refine ⟨⟨h.1,fun hn=>?_⟩,fun b off e0 hn=>⟨(hx b off e0 hn).1,?_⟩⟩
  ·obtain ⟨b,off,e0,hlt,hc⟩:=h.2 hn
   exact ⟨b,off,e0,Zo hlt (But.size hg),fun j x hj i u hu=>(But.cell (p:=⟨b,_,none⟩) hg hlt (hx b off e0 hn).2).trans (hc j x hj i u hu)⟩
  ·obtain ⟨b2,off2,e2,hlt,_⟩:=h.2 hn
   rw [e0] at e2
   cases e2
   rcases hv with hv | hv
   ·rw [hv];exact (hx b off e0 hn).2
   ·rw [hv];intro e9;cases e9;omega
 refine ⟨_,h1,fun r x hx=>?_⟩
 rcases Z0 r k with aa | aa
 ·rw [ZN (by omega)] at hx
  exact key (h2 r x hx).1 (h2 r x hx).2
 ·rw [ZL (by omega),hk] at hx
  obtain ⟨h0,h3⟩:=ZK.1 hx
  obtain rfl:r=k:=by simp at h0;omega
  simp at h3
  subst h3
  exact key hr hb
theorem zlj (w:World) (l:List St) {A:Option Addr} {n:Nat} (h:Vec shCh w A n (List.replicate (l.length+1) ⟨0,0,0⟩)):Vec shCh w A n (tabRow l 0):=by
 rw [tabRow,if_pos rfl]
 exact h
def rowUp (l:List St) (n i:Nat):List Chc:=(List.range i).map (fun j=>ch (sub l j n))
theorem zcI (l:List St) (n i:Nat):rowUp l n (i+1)=rowUp l n i++[ch (sub l i n)]:=by
 simp [rowUp,List.range_succ]
theorem zkT {l:List St} {n i:Nat} (h1:1<=n) (h2:n<=l.length) (hi:i+n=l.length+1):rowUp l n i=tabRow l n:=by
 rw [tabRow,if_neg (by omega),rowUp]
 congr 2
 omega
theorem Vec.sub_ {w:World} {b off n a m:Nat} {l:List St} (h:Vec shSt w (some ⟨b,off,none⟩) n l) (ham:a+m<=n):Vec shSt w (some ⟨b,off+a*4,none⟩) m (sub l a m):=by
 have hl:=h.1
 refine ⟨zan (by omega),fun hm=>?_⟩
 obtain ⟨b',off',e,hb,hc⟩:=h.2 (by omega)
 cases e
 refine ⟨b,_,rfl,hb,fun k x hx i u hu=>?_⟩
 have hk:k<m:=by
  have:=(ZK.1 hx).1
  rw [zan (by omega)] at this
  exact this
 rw [sub,List.getElem?_take,if_pos hk,ZV] at hx
 have:=hc (a+k) x hx i u hu
 rw [<-this]
 congr 2
 show off+a*4+(k*4+i)=off+((a+k)*4+i)
 omega
end Go.Proofs.YtkneghkbgingdaaGreatDoor
/- The reference's period. -/
namespace Go.Proofs.YtkneghkbgingdaaGreatDoor
set_option maxRecDepth 100000
open Go.RowKit Go.ChangeShapes Go.WideShapes Go.Joins
theorem zd6 (m c p:Nat) (A:Option Addr) (l:List St) (w:World) (hl:Vec shSt w A m l) (hm60:m<=60) (hp:1<=p) (hpm:p<m) :
  Calls Tryz.prog 140 #[.slice A m c,.int .i64 p] w fun e w'=>e = .returned (.bool (perB l p))/\∃q,w'=w.drewN q:=by
 have HX:=Za hl
 have ac:=hl.1
 have hp0:¬((p:Int)=0):=by omega
 have r1:¬((p:Int)<1):=by omega
 have r2:¬((m:Int)<=(p:Int)):=by omega
 clear hl
 by_cases hmod:m % p=0
 case neg =>
  have HF:=Za (zkw (l:=l) (p:=p) (by rw [ac];exact hmod))
  have ad:((m:Int) % (p:Int) != 0)=true:=by
   simp
   omega
  go_enter Tryz.func140,Tryz.ntmps140
  go_wp2_with fail
  go_ret
  exact ⟨by rw [HF.out];rfl,0,rfl⟩
 have ad:((m:Int) % (p:Int) != 0)=false:=by
  simp
  omega
 go_enter Tryz.func140,Tryz.ntmps140
 go_wp2_with fail
 go_loopw [5] (fun i wr=>∃j:Nat,i = .int .i64 (j:Int)/\j+p<=m/\Hid (∀j',j'<j->l.getD j' st0=l.getD (j'+p) st0)/\Hid (∃q,wr=w.drewN q)) (fun i _=>m-(intOf i).toNat)
 case atStart=>exact ⟨0,by simp,by omega,fun j hj=>absurd hj (by omega),0,rfl⟩
 case round =>
  obtain ⟨j,rfl,hj,aa,ab⟩:=hrel
  obtain ⟨q,rfl⟩:=ab.out
  have hx:Ext w (w.drewN q):=(Zf w).drewN q
  have s2:=Zh ((j:Int)+(p:Int)) (by omega)
  have s3:=Zh ((j:Int)+1) (by omega)
  by_cases hlt:j+p<m
  ·have q4:(j:Int)+(p:Int)<(m:Int):=by omega
   obtain ⟨b,off,rfl,hb,hc⟩:=Sts.all HX.out (by omega)
   obtain ⟨h1,h2,h3,h4⟩:=hc j (by omega)
   obtain ⟨h5,h6,h7,h8⟩:=hc (j+p) (by omega)
   clear hc
   have q0:(0:Int)<=(j:Int):=by omega
   have q1:(j:Int)<(m:Int):=by omega
   have q2:(0:Int)<=(j:Int)+(p:Int):=by omega
   have n2:((j:Int)+(p:Int)).toNat=j+p:=by omega
   by_cases hxy:l.getD j st0=l.getD (j+p) st0
   ·have HA:=Za (show ∀j',j'<j+1->l.getD j' st0=l.getD (j'+p) st0 from fun j' hj'=>by
     by_cases e:j'=j
     ·subst e;exact hxy
     ·exact aa.out j' (by omega))
    rw [<-hxy] at h5 h6 h7 h8
    clear aa hxy
    generalize l.getD j st0=x at *
    obtain ⟨x1,x2,x3,x4⟩:=x
    simp only at h1 h2 h3 h4 h5 h6 h7 h8
    go_wp2_with fail
    go_quiet (fail)
    go_wp2
    go_roundw
    case rel=>exact ⟨j+1,by go_num,by omega,HA,q+nq,by first | rfl | (rw [World.drewN_drewN]) | (simp;done)⟩
    case measure=>simp [intOf];omega
   ·have HF:=Za (znq (l:=l) (p:=p) (j:=j) (by rw [ac];exact hlt) hxy)
    clear aa
    generalize l.getD j st0=x at *
    generalize l.getD (j+p) st0=y at *
    obtain ⟨x1,x2,x3,x4⟩:=x
    obtain ⟨y1,y2,y3,y4⟩:=y
    simp only at h1 h2 h3 h4 h5 h6 h7 h8
    have hne:=zbq hxy
    clear hxy
    go_wp2_with fail
    go_quiet (fail)
    go_wp2
    go_ret
    exact ⟨by rw [HF.out];rfl,q+nq,by first | rfl | (rw [World.drewN_drewN]) | (simp;done)⟩
  ·have q4:¬((j:Int)+(p:Int)<(m:Int)):=by omega
   have HF:=Za (zcH (l:=l) (p:=p) (by rw [ac];exact hmod) (by omega) (fun j' hj'=>aa.out j' (by omega)))
   go_wp2_with fail
   go_ret
   exact ⟨by rw [HF.out];rfl,q,rfl⟩
end Go.Proofs.YtkneghkbgingdaaGreatDoor
