/- Lists of terms that a call puts together; Twin and Same of terms. -/
import Derived.Test.YtfbfkoeaihknoaaGreatDoorG07
import Derived.Test.YtfbfkoeaihknoaaGreatDoorG05
import Derived.Test.YtfbfkoeaihknoaaGreatDoorG00
namespace Go.Proofs.YtfbfkoeaihknoaaGreatDoor
set_option maxRecDepth 100000
open Go.RowKit Go.ChangeShapes Go.WideShapes Go.Joins
/-- as TAt; all blocks that are read meet a condition -/
def TAtK (w : World) (K : Nat → Prop) : Tms → Nat → Nat → Prop
  | .nil, _, _ => True
  | .cons N c g r, b, off => ∃ (A : Option Addr) (n cap : Nat), w.cell? ⟨b, off, none⟩ = some (.int .i64 N) ∧ w.cell? ⟨b, off + 1, none⟩ = some (.int .u8 c.k) ∧ w.cell? ⟨b, off + 2, none⟩ = some (.bool c.p) ∧
      w.cell? ⟨b, off + 3, none⟩ = some (.int .i64 c.a) ∧ w.cell? ⟨b, off + 4, none⟩ = some (.int .i64 c.b) ∧ w.cell? ⟨b, off + 5, none⟩ = some (.slice A n cap) ∧ (0 ≤ c.k ∧ c.k ≤ 255) ∧
      g.cnt = n ∧ n ≤ maxLen ∧ (0 < n → ∃ b' off', A = some ⟨b', off', none⟩ ∧ b' < w.heap.size ∧ K b' ∧ TAtK w K g b' off') ∧ TAtK w K r b (off + 6)
def TvK (w : World) (K : Nat → Prop) (A : Option Addr) (n : Nat) (t : Tms) : Prop := t.cnt = n ∧ n ≤ maxLen ∧ (0 < n → ∃ b off, A = some ⟨b, off, none⟩ ∧ b < w.heap.size ∧ K b ∧ TAtK w K t b off)
theorem TAtK.keep {w w' : World} {K K' : Nat → Prop} (hz : w.heap.size ≤ w'.heap.size) (hc : ∀ b, b < w.heap.size → K b → K' b ∧ ∀ o, w'.cell? ⟨b, o, none⟩ = w.cell? ⟨b, o, none⟩) :
    ∀ {t : Tms} {b off : Nat}, b < w.heap.size → K b → TAtK w K t b off → TAtK w' K' t b off := by
  intro t
  induction t with
  | nil => intro b off _ _ _; trivial
  | cons N c g r ih1 ih2 =>
    intro b off hlt hk0 ⟨A, n, cap, h0, h1, h2, h3, h4, h5, hk, hn, hm, hg, hr⟩
    have hb := (hc b hlt hk0).2
    refine ⟨A, n, cap, (hb _).trans h0, (hb _).trans h1, (hb _).trans h2, (hb _).trans h3, (hb _).trans h4, (hb _).trans h5, hk, hn, hm, fun h => ?_, ih2 hlt hk0 hr⟩
    obtain ⟨b', off', e, hlt', hk', hg'⟩ := hg h
    exact ⟨b', off', e, Nat.lt_of_lt_of_le hlt' hz, (hc b' hlt' hk').1, ih1 hlt' hk' hg'⟩
theorem TvK.keep {w w' : World} {K K' : Nat → Prop} {A : Option Addr} {n : Nat} {t : Tms} (h : TvK w K A n t) (hz : w.heap.size ≤ w'.heap.size) (hc : ∀ b, b < w.heap.size → K b → K' b ∧ ∀ o, w'.cell? ⟨b, o, none⟩ = w.cell? ⟨b, o, none⟩) : TvK w' K' A n t :=
  ⟨h.1, h.2.1, fun hn => by
    obtain ⟨b, off, e, hlt, hk, ht⟩ := h.2.2 hn
    exact ⟨b, off, e, Nat.lt_of_lt_of_le hlt hz, (hc b hlt hk).1, TAtK.keep hz hc hlt hk ht⟩⟩
theorem TvK.ext {w w' : World} {K : Nat → Prop} {A : Option Addr} {n : Nat} {t : Tms} (h : TvK w K A n t) (hb : Ext w w') : TvK w' K A n t :=
  h.keep (Below.size hb) fun b hlt hk => ⟨hk, fun o => Below.cell (p := ⟨b, o, none⟩) hb hlt⟩
theorem TvK.mono {w : World} {K K' : Nat → Prop} {A : Option Addr} {n : Nat} {t : Tms} (h : TvK w K A n t) (hk : ∀ b, b < w.heap.size → K b → K' b) : TvK w K' A n t :=
  h.keep (Nat.le_refl _) fun b hlt hb => ⟨hk b hlt hb, fun _ => rfl⟩
theorem TvK.but {w w' : World} {K K' : Nat → Prop} {E : Option Nat} {A : Option Addr} {n : Nat} {t : Tms} (h : TvK w K A n t) (hb : But E w w') (hk : ∀ b, b < w.heap.size → K b → K' b ∧ some b ≠ E) : TvK w' K' A n t :=
  h.keep hb.size fun b hlt hkb => ⟨(hk b hlt hkb).1, fun o => hb.cell (p := ⟨b, o, none⟩) hlt (hk b hlt hkb).2⟩
theorem TAtK.tat {w : World} {K : Nat → Prop} : ∀ {t : Tms} {b off : Nat}, TAtK w K t b off → TAt w t b off := by
  intro t
  induction t with
  | nil => intro b off _; trivial
  | cons N c g r ih1 ih2 =>
    intro b off ⟨A, n, cap, h0, h1, h2, h3, h4, h5, hk, hn, hm, hg, hr⟩
    refine ⟨A, n, cap, h0, h1, h2, h3, h4, h5, hk, hn, hm, fun h => ?_, ih2 hr⟩
    obtain ⟨b', off', e, hlt', _, hg'⟩ := hg h
    exact ⟨b', off', e, hlt', ih1 hg'⟩
theorem TvK.tv {w : World} {K : Nat → Prop} {A : Option Addr} {n : Nat} {t : Tms} (h : TvK w K A n t) : Tv w A n t :=
  ⟨h.1, h.2.1, fun hn => by
    obtain ⟨b, off, e, hlt, _, ht⟩ := h.2.2 hn
    exact ⟨b, off, e, hlt, ht.tat⟩⟩
theorem TvK.none_ (w : World) (K : Nat → Prop) (A : Option Addr) : TvK w K A 0 .nil := ⟨rfl, by unfold maxLen; omega, fun h => absurd h (by omega)⟩
/-- the cells of a list of terms, one behind the other; the groups lie elsewhere -/
def RwK (w : World) (K : Nat → Prop) : Tms → List Value → Prop
  | .nil, L => L = []
  | .cons N c g r, L => ∃ (A : Option Addr) (n cap : Nat) (L' : List Value), L = [.int .i64 N, .int .u8 c.k, .bool c.p, .int .i64 c.a, .int .i64 c.b, .slice A n cap] ++ L' ∧ (0 ≤ c.k ∧ c.k ≤ 255) ∧ TvK w K A n g ∧ RwK w K r L'
theorem RwK.keep {w w' : World} {K K' : Nat → Prop} (hz : w.heap.size ≤ w'.heap.size) (hc : ∀ b, b < w.heap.size → K b → K' b ∧ ∀ o, w'.cell? ⟨b, o, none⟩ = w.cell? ⟨b, o, none⟩) :
    ∀ {t : Tms} {L : List Value}, RwK w K t L → RwK w' K' t L := by
  intro t
  induction t with
  | nil => intro L h; exact h
  | cons N c g r _ ih =>
    intro L ⟨A, n, cap, L', e, hk, hg, hr⟩
    exact ⟨A, n, cap, L', e, hk, hg.keep hz hc, ih hr⟩
theorem RwK.ext {w w' : World} {K : Nat → Prop} {t : Tms} {L : List Value} (h : RwK w K t L) (hb : Ext w w') : RwK w' K t L :=
  h.keep (Below.size hb) fun b hlt hk => ⟨hk, fun o => Below.cell (p := ⟨b, o, none⟩) hb hlt⟩
theorem RwK.but {w w' : World} {K K' : Nat → Prop} {E : Option Nat} {t : Tms} {L : List Value} (h : RwK w K t L) (hb : But E w w') (hk : ∀ b, b < w.heap.size → K b → K' b ∧ some b ≠ E) : RwK w' K' t L :=
  h.keep hb.size fun b hlt hkb => ⟨(hk b hlt hkb).1, fun o => hb.cell (p := ⟨b, o, none⟩) hlt (hk b hlt hkb).2⟩
theorem RwK.app {w : World} {K : Nat → Prop} : ∀ {a b : Tms} {L M : List Value}, RwK w K a L → RwK w K b M → RwK w K (a.app b) (L ++ M) := by
  intro a
  induction a with
  | nil => intro b L M h h2; rw [show L = [] from h]; exact h2
  | cons N c g r _ ih =>
    intro b L M ⟨A, n, cap, L', e, hk, hg, hr⟩ h2
    exact ⟨A, n, cap, L' ++ M, by rw [e, List.append_assoc], hk, hg, ih hr h2⟩
theorem RwK.len {w : World} {K : Nat → Prop} : ∀ {t : Tms} {L : List Value}, RwK w K t L → L.length = t.cnt * 6 := by
  intro t
  induction t with
  | nil => intro L h; rw [show L = [] from h]; rfl
  | cons N c g r _ ih =>
    intro L ⟨A, n, cap, L', e, hk, hg, hr⟩
    have := ih hr
    rw [e]
    simp only [List.length_append, List.length_cons, List.length_nil, Tms.cnt, this]
    omega
theorem RwK.one {w : World} {K : Nat → Prop} : ∀ {t : Tms} {L : List Value}, RwK w K t L → ∀ u ∈ L, u.oneCell' = true := by
  intro t
  induction t with
  | nil => intro L h u hu; rw [show L = [] from h] at hu; cases hu
  | cons N c g r _ ih =>
    intro L ⟨A, n, cap, L', e, hk, hg, hr⟩ u hu
    rw [e, List.mem_append] at hu
    rcases hu with hu | hu
    · simp only [List.mem_cons, List.not_mem_nil, or_false] at hu
      rcases hu with rfl | rfl | rfl | rfl | rfl | rfl <;> rfl
    · exact ih hr u hu
/-- cells that lie in a block make a reading -/
theorem RwK.at_ {w : World} {K : Nat → Prop} : ∀ {t : Tms} {L : List Value} {b off : Nat}, RwK w K t L → (∀ j u, L[j]? = some u → w.cell? ⟨b, off + j, none⟩ = some u) → TAtK w K t b off := by
  intro t
  induction t with
  | nil => intro L b off _ _; trivial
  | cons N c g r _ ih =>
    intro L b off ⟨A, n, cap, L', e, hk, hg, hr⟩ h
    subst e
    refine ⟨A, n, cap, h 0 _ rfl, h 1 _ rfl, h 2 _ rfl, h 3 _ rfl, h 4 _ rfl, h 5 _ rfl, hk, hg.1, hg.2.1, hg.2.2, ih hr (fun j u hu => ?_)⟩
    rw [show off + 6 + j = off + (6 + j) by omega]
    refine h (6 + j) u ?_
    rw [List.getElem?_append_right (by simp)]
    simpa using hu
/-- and the other way about -/
theorem TAtK.row {w : World} {K : Nat → Prop} : ∀ {t : Tms} {b off : Nat}, TAtK w K t b off → ∃ L, RwK w K t L ∧ ∀ j u, L[j]? = some u → w.cell? ⟨b, off + j, none⟩ = some u := by
  intro t
  induction t with
  | nil => intro b off _; exact ⟨[], rfl, fun j u h => by simp at h⟩
  | cons N c g r _ ih =>
    intro b off ⟨A, n, cap, h0, h1, h2, h3, h4, h5, hk, hn, hm, hg, hr⟩
    obtain ⟨L', hL, hc⟩ := ih hr
    refine ⟨_, ⟨A, n, cap, L', rfl, hk, ⟨hn, hm, hg⟩, hL⟩, fun j u hu => ?_⟩
    rcases Nat.lt_or_ge j 6 with hj | hj
    · rw [List.getElem?_append_left (by simpa using hj)] at hu
      match j, hj, hu with
      | 0, _, hu => simp at hu; subst hu; exact h0
      | 1, _, hu => simp at hu; subst hu; exact h1
      | 2, _, hu => simp at hu; subst hu; exact h2
      | 3, _, hu => simp at hu; subst hu; exact h3
      | 4, _, hu => simp at hu; subst hu; exact h4
      | 5, _, hu => simp at hu; subst hu; exact h5
    · rw [List.getElem?_append_right (by simpa using hj)] at hu
      have := hc (j - 6) u (by simpa using hu)
      rwa [show off + 6 + (j - 6) = off + j by omega] at this
/-- the call has put together these terms; all that is read of them is the call's own -/
def OwnT (w : World) (B : Nat) (e : TypeId) (v : Value) (k : Nat) (t : Tms) : Prop := t.cnt = k ∧ ∃ L, w.ownsRow B e 6 v k L ∧ RwK w (fun b => B ≤ b ∧ some b ≠ v.ownBlock) t L
theorem OwnT.nil (w : World) (B : Nat) (e : TypeId) : OwnT w B e (.slice none 0 0) 0 .nil := ⟨rfl, [], World.ownsRow_nil _ _ _ _, rfl⟩
theorem OwnT.ext {w w' : World} {B : Nat} {e : TypeId} {v : Value} {k : Nat} {t : Tms} (h : OwnT w B e v k t) (hb : Ext w w') : OwnT w' B e v k t := by
  obtain ⟨h1, L, h2, h3⟩ := h
  exact ⟨h1, L, World.ownsRow.kept h2 (But.of_ext hb none) (by cases v.ownBlock <;> simp), h3.ext hb⟩
/-- what is put together is a slice that reads as the terms -/
theorem own_tms {w : World} {B k : Nat} {e : TypeId} {v : Value} {t : Tms} (h : OwnT w B e v k t) (hk : k ≤ 1000000) : ∃ A c, v = .slice A k c ∧ TvK w (fun b => B ≤ b) A k t := by
  obtain ⟨h1, L, h2, h3⟩ := h
  have hm : k ≤ maxLen := by unfold maxLen; omega
  rcases h2.2 with ⟨e1, e2⟩ | ⟨g, cap, cur, e1, _⟩
  · subst e2
    subst e1
    exact ⟨none, 0, rfl, h1, by unfold maxLen; omega, fun h => absurd h (by omega)⟩
  · subst e1
    refine ⟨_, _, rfl, h1, hm, fun hn => ?_⟩
    obtain ⟨g', cap', hv, _, hlt⟩ := World.ownsRow.form h2 hn
    simp only [Value.slice.injEq, true_and] at hv
    obtain ⟨hA, hc⟩ := hv
    cases hA
    refine ⟨g, 0, rfl, hlt, (own_blk h2 g (by simp [Value.ownBlock])).1, ?_⟩
    refine RwK.at_ (L := L) (h3.keep (Nat.le_refl _) fun b _ hb => ⟨hb.1, fun _ => rfl⟩) fun j u hu => ?_
    have hj : j < k * 6 := by rw [← h1, ← h3.len]; exact (List.getElem?_eq_some_iff.1 hu).1
    rw [Nat.zero_add, World.ownsRow.cellAt h2 _ hj]
    exact hu
section
variable {P : Program} {ops : Array Oper} {rest : List Oper} {o : Oper} {a : Act} {K : Act → World → Prop} {Q : Exit → Act → World → Prop} {E : Prop} {w wx : World}
theorem app_cnt : ∀ (t r : Tms), (t.app r).cnt = t.cnt + r.cnt := by
  intro t r
  induction t with
  | nil => simp [Tms.app, Tms.cnt]
  | cons N c g r' _ ih => simp only [Tms.app, Tms.cnt, ih]; omega
/-- terms appended to what the call has put together; what is read of the new ones is the call's own, and not the row itself -/
theorem wp_append_tms (T e : TypeId) (z : Value) (bytes : Nat) {s x : Operand} {v : Value} {k m c : Nat} {A : Option Addr} {t r : Tms} {L : List Value}
    (ho : o.op = .call { callee := .builtin .append, args := #[s, x], argTypes := #[T, T] })
    (ht : P.underlying T = some (.slice e)) (hinfo : (P.info? e).map (fun i => (i.zero, i.size, i.bytes)) = some (some z, 6, bytes)) (hzs : z.cells.size = 6) (hby : bytes ≤ 1000)
    (hs : a.eval s = v) (hx : a.eval x = .slice A m c) (hown : OwnT wx w.heap.size e v k t) (hext : Ext w wx) (hr : r.cnt = m)
    (hL : RwK wx (fun b => w.heap.size ≤ b ∧ some b ≠ v.ownBlock) r L) (hA : 0 < m → ∃ ad, A = some ad ∧ ∀ j u, L[j]? = some u → wx.cell? (ad.add j) = some u) (hk : k + m ≤ 1000000)
    (h : ∀ v' w1, OwnT w1 w.heap.size e v' (k + m) (t.app r) → Hid (Ext w w1) → K (a.put o.dst v') w1) : o.wp P a wx K Q := by
  obtain ⟨h1, L0, h2, h3⟩ := hown
  refine wp_append_cells T e z 6 bytes ho ht hinfo hzs (by omega) hby hs hx h2 hext (by rw [hL.len, hr]) hA hL.one hk ?_
  intro v' w1 g1 g2 g3 g4
  refine h v' w1 ⟨?_, L0 ++ L, g1, ?_⟩ g2
  · rw [← hr, ← h1]
    exact app_cnt t r
  · have hb : ∀ b, b < wx.heap.size → (w.heap.size ≤ b ∧ some b ≠ v.ownBlock) → (w.heap.size ≤ b ∧ some b ≠ v'.ownBlock) ∧ some b ≠ v.ownBlock := fun b hlt hb => by
      refine ⟨⟨hb.1, ?_⟩, hb.2⟩
      rcases g4 with g4 | g4
      · rw [g4]; exact hb.2
      · rw [g4]; intro e; cases e; omega
    exact (h3.but g3 hb).app (hL.but g3 hb)
end
theorem info_tm0 : (Tryz.prog.info? 48).map (fun i => (i.zero.map (fun z => z.cells.size), i.size, i.bytes)) = some (some 6, 6, 56) := by kernel_rfl
theorem info_tm : ∃ z : Value, (Tryz.prog.info? 48).map (fun i => (i.zero, i.size, i.bytes)) = some (some z, 6, 56) ∧ z.cells.size = 6 := by
  have h := info_tm0
  rw [Option.map_eq_some_iff] at h
  obtain ⟨i, hi, he⟩ := h
  simp only [Prod.mk.injEq] at he
  obtain ⟨h1, h2, h3⟩ := he
  rw [Option.map_eq_some_iff] at h1
  obtain ⟨z, hz, hs⟩ := h1
  exact ⟨z, by rw [hi, Option.map_some, hz, h2, h3], hs⟩
/-- a term in a block of its own, appended -/
theorem wp_append_tm {P : Program} {o : Oper} {a : Act} {K : Act → World → Prop} {Q : Exit → Act → World → Prop} {w wx : World} (T e : TypeId) (z : Value) (bytes : Nat) {s x : Operand} {v : Value} {k : Nat} (g0 : Nat) {t g : Tms} (N : Int) (c : St) {A : Option Addr} {n cap : Nat}
    (ho : o.op = .call { callee := .builtin .append, args := #[s, x], argTypes := #[T, T] })
    (ht : P.underlying T = some (.slice e)) (hinfo : (P.info? e).map (fun i => (i.zero, i.size, i.bytes)) = some (some z, 6, bytes)) (hzs : z.cells.size = 6) (hby : bytes ≤ 1000)
    (hs : a.eval s = v) (hx : a.eval x = .slice (some ⟨g0, 0, none⟩) 1 1) (hown : OwnT wx w.heap.size e v k t) (hext : Ext w wx) (hck : 0 ≤ c.k ∧ c.k ≤ 255)
    (hg : TvK wx (fun b => w.heap.size ≤ b ∧ some b ≠ v.ownBlock) A n g)
    (hA : ∀ j u, ([.int .i64 N, .int .u8 c.k, .bool c.p, .int .i64 c.a, .int .i64 c.b, .slice A n cap] : List Value)[j]? = some u → wx.cell? ⟨g0, j, none⟩ = some u) (hk : k + 1 ≤ 1000000)
    (h : ∀ v' w1, OwnT w1 w.heap.size e v' (k + 1) (t.app (.cons N c g .nil)) → Hid (Ext w w1) → K (a.put o.dst v') w1) : o.wp P a wx K Q :=
  wp_append_tms T e z bytes (r := .cons N c g .nil) (L := [.int .i64 N, .int .u8 c.k, .bool c.p, .int .i64 c.a, .int .i64 c.b, .slice A n cap]) ho ht hinfo hzs hby hs hx hown hext rfl
    ⟨A, n, cap, [], rfl, hck, hg, rfl⟩ (fun _ => ⟨_, rfl, fun j u hu => by rw [add_plain, Nat.zero_add]; exact hA j u hu⟩) hk h
theorem step_append_tm {P : Program} {ops : Array Oper} {E : Prop} {o : Oper} {a : Act} {K : Act → World → Prop} {Q : Exit → Act → World → Prop} {w wx : World} (T e : TypeId) (z : Value) (bytes : Nat) {s x : Operand} {v : Value} {k : Nat} (g0 : Nat) {t g : Tms} (N : Int) (c : St) {A : Option Addr} {n cap : Nat}
    (hgd : o.guard = none) (ho : o.op = .call { callee := .builtin .append, args := #[s, x], argTypes := #[T, T] })
    (ht : P.underlying T = some (.slice e)) (hinfo : (P.info? e).map (fun i => (i.zero, i.size, i.bytes)) = some (some z, 6, bytes)) (hzs : z.cells.size = 6) (hby : bytes ≤ 1000)
    (hs : a.eval s = v) (hx : a.eval x = .slice (some ⟨g0, 0, none⟩) 1 1) (hown : OwnT wx w.heap.size e v k t) (hext : Ext w wx) (hck : 0 ≤ c.k ∧ c.k ≤ 255)
    (hg : TvK wx (fun b => w.heap.size ≤ b ∧ some b ≠ v.ownBlock) A n g)
    (hA : ∀ j u, ([.int .i64 N, .int .u8 c.k, .bool c.p, .int .i64 c.a, .int .i64 c.b, .slice A n cap] : List Value)[j]? = some u → wx.cell? ⟨g0, j, none⟩ = some u) (hk : k + 1 ≤ 1000000)
    (h : ∀ v' w1, OwnT w1 w.heap.size e v' (k + 1) (t.app (.cons N c g .nil)) → Hid (Ext w w1) → K (a.put o.dst v') w1) :
    if Region.wanted o (yielded ops a.tmps) = true then Oper.wp P o a wx K Q else E := by
  have hw : Region.wanted o (yielded ops a.tmps) = true := by simp [Region.wanted, hgd]
  rw [if_pos hw]
  exact wp_append_tm T e z bytes g0 N c ho ht hinfo hzs hby hs hx hown hext hck hg hA hk h
/-- a call has returned these terms, made by itself -/
def TmsR (t : Tms) (w : World) (e : Ending) (w' : World) : Prop := ∃ (A : Option Addr) (n c : Nat), e = .returned (.slice A n c) ∧ Ext w w' ∧ TvK w' (fun b => w.heap.size ≤ b) A n t
theorem app_nil : ∀ t : Tms, t.app .nil = t := by
  intro t
  induction t with
  | nil => rfl
  | cons N c g r _ ih => rw [Tms.app, ih]
theorem app_assoc : ∀ a b c : Tms, (a.app b).app c = a.app (b.app c) := by
  intro a
  induction a with
  | nil => intro b c; rfl
  | cons N x g r _ ih => intro b c; rw [Tms.app, Tms.app, Tms.app, ih]
theorem tm_new (w : World) (N k : Int) (p : Bool) (a b : Int) (v : Value) (T : TypeId) :
    ∀ j u, ([.int .i64 N, .int .u8 k, .bool p, .int .i64 a, .int .i64 b, v] : List Value)[j]? = some u → (w.alloc (.cells #[.int .i64 N, .int .u8 k, .bool p, .int .i64 a, .int .i64 b, v] T)).cell? ⟨w.heap.size, j, none⟩ = some u := by
  intro j u hj
  have h : (w.alloc (.cells #[.int .i64 N, .int .u8 k, .bool p, .int .i64 a, .int .i64 b, v] T)).heap[w.heap.size]? = some (.cells #[.int .i64 N, .int .u8 k, .bool p, .int .i64 a, .int .i64 b, v] T) := heap_alloc_new w _
  rw [cell_of_row _ w.heap.size _ _ T (0, 0) h]
  simpa using hj
attribute [local go_sem] run_equalIn_st
set_option maxHeartbeats 4000000 in
theorem same_any : ∀ (M : Nat), M ≤ 5000 → ∀ (t : Tms), t.size ≤ M → ∀ (A B : Option Addr) (n m cap dap : Nat) (w : World), Tv w A n t → Tv w B m t →
    Calls Tryz.prog 14 #[.slice A n cap, .slice B m dap] w fun e w' => e = .returned (.bool true) ∧ Ext w w' := by
  intro M
  induction M using Nat.strongRecOn with
  | ind M ih =>
    intro hM t ht A B n m cap dap w hv hu
    obtain rfl : n = m := hv.1.symm.trans hu.1
    have HI := Lib.hid ih
    have HV := Lib.hid hv
    have HU := Lib.hid hu
    have hnm : n ≤ 5000 := by have h1 := hv.1; have h2 := cnt_size t; omega
    clear ih hv hu
    go_enter Tryz.func14, Tryz.ntmps14
    go_wp2_with fail
    go_loopw [5] (fun i wr => ∃ (k : Nat) (rest : Tms), i = .int .i64 k ∧ rest.cnt + k = n ∧ rest.size ≤ M ∧
      Hid (Ext w wr ∧ (0 < rest.cnt → ∃ b off, A = some ⟨b, off, none⟩ ∧ b < wr.heap.size ∧ TAt wr rest b (off + k * 6)) ∧ (0 < rest.cnt → ∃ b off, B = some ⟨b, off, none⟩ ∧ b < wr.heap.size ∧ TAt wr rest b (off + k * 6)))) (fun i _ => n - (intOf i).toNat)
    case atStart =>
      refine ⟨0, t, rfl, by have := HV.out.1; omega, ht, Lib.hid ⟨Ext.refl _, fun h => ?_, fun h => ?_⟩⟩
      · obtain ⟨h1, h2, h3⟩ := HV.out
        obtain ⟨b, off, e, hb, hc⟩ := h3 (by omega)
        exact ⟨b, off, e, hb, by simpa using hc⟩
      · obtain ⟨h1, h2, h3⟩ := HU.out
        obtain ⟨b, off, e, hb, hc⟩ := h3 (by omega)
        exact ⟨b, off, e, hb, by simpa using hc⟩
    case round =>
      obtain ⟨k, rest, rfl, hcnt, hrs, HH⟩ := hrel
      by_cases hlt : 0 < rest.cnt
      · obtain ⟨N, c, g, r, rfl⟩ := cnt_cons hlt
        obtain ⟨b, off, rfl, hb1, hc⟩ := HH.out.2.1 hlt
        obtain ⟨b', off', rfl, hb2, hd⟩ := HH.out.2.2 hlt
        obtain ⟨A', n', cap', c0, c1, c2, c3, c4, c5, hkk, hg, hr⟩ := hc.head
        obtain ⟨B', m', dap', d0, d1, d2, d3, d4, d5, hkk', hg', hr'⟩ := hd.head
        have hxr := HH.out.1
        simp only [Tms.cnt, Tms.size] at hcnt hrs
        have hkn : k < n := by omega
        have hcall := fun (w' : World) (h : Ext wr w') => HI.out (M - 1) (by omega) (by omega) g (by omega) A' B' n' m' cap' dap' w' (hg.ext h) (hg'.ext h)
        have HC := Lib.hid hcall
        have q0 : (0 : Int) ≤ (k : Int) := by omega
        have q1 : (k : Int) < (n : Int) := by omega
        clear hcall hc hd hkk hkk'
        obtain ⟨ck, cp, ca, cb⟩ := c
        simp only at c1 c2 c3 c4 d1 d2 d3 d4
        obtain ⟨wq, rfl⟩ : ∃ wq : World, wq = wr := ⟨_, rfl⟩
        go_wp2_with fail
        go_region_held3 (fun w' => w'.cell? ⟨b, off + k * 6, none⟩ = some (.int .i64 N) ∧ w'.cell? ⟨b, off + k * 6 + 1, none⟩ = some (.int .u8 ck) ∧ w'.cell? ⟨b, off + k * 6 + 2, none⟩ = some (.bool cp) ∧ w'.cell? ⟨b, off + k * 6 + 3, none⟩ = some (.int .i64 ca) ∧ w'.cell? ⟨b, off + k * 6 + 4, none⟩ = some (.int .i64 cb) ∧ w'.cell? ⟨b, off + k * 6 + 5, none⟩ = some (.slice A' n' cap') ∧ w'.cell? ⟨b', off' + k * 6, none⟩ = some (.int .i64 N) ∧ w'.cell? ⟨b', off' + k * 6 + 1, none⟩ = some (.int .u8 ck) ∧ w'.cell? ⟨b', off' + k * 6 + 2, none⟩ = some (.bool cp) ∧ w'.cell? ⟨b', off' + k * 6 + 3, none⟩ = some (.int .i64 ca) ∧ w'.cell? ⟨b', off' + k * 6 + 4, none⟩ = some (.int .i64 cb) ∧ w'.cell? ⟨b', off' + k * 6 + 5, none⟩ = some (.slice B' m' dap')) (go_keep)
          (first | (go_at_call 14; ((with_reducible refine (HC.out _ (by repeat (first | exact Ext.refl _ | assumption | refine Ext.alloc ?_ _ | refine Ext.drew ?_ | refine Ext.drewN ?_ _ | refine Ext.trans ?_ (by assumption)))).mono ?_); rintro e w1 ⟨rfl, hq1⟩; have hq9 : Ext wq w1 := (by repeat (first | exact Ext.refl _ | assumption | refine Ext.alloc ?_ _ | refine Ext.drew ?_ | refine Ext.drewN ?_ _ | refine Ext.trans ?_ (by assumption))); obtain ⟨hf1, hf2, hf3⟩ := hq9.facts)))
        go_wp2
        go_roundw
        case rel =>
          refine ⟨k + 1, r, by go_num, by omega, by omega, Lib.hid ⟨HH.out.1.trans hq9, fun h => ?_, fun h => ?_⟩⟩
          · refine ⟨b, off, rfl, Nat.lt_of_lt_of_le hb1 (Below.size hq9), ?_⟩
            rw [show off + (k + 1) * 6 = off + k * 6 + 6 by omega]
            exact hr.ext hq9 hb1
          · refine ⟨b', off', rfl, Nat.lt_of_lt_of_le hb2 (Below.size hq9), ?_⟩
            rw [show off' + (k + 1) * 6 = off' + k * 6 + 6 by omega]
            exact hr'.ext hq9 hb2
        case measure => simp [intOf]; omega
      · have hn0 : rest.cnt = 0 := by omega
        obtain rfl := cnt_nil hn0
        simp only [Tms.cnt] at hcnt
        obtain ⟨e2, -⟩ := HH.out
        obtain rfl : k = n := by omega
        go_wp2
        go_ret
        exact ⟨rfl, by repeat (first | exact Ext.refl _ | assumption | refine Ext.alloc ?_ _ | refine Ext.drew ?_ | refine Ext.drewN ?_ _ | refine Ext.trans ?_ (by assumption))⟩
end Go.Proofs.YtfbfkoeaihknoaaGreatDoor
/- The finder of the shortest list: list. -/
namespace Go.Proofs.YtfbfkoeaihknoaaGreatDoor
set_option maxRecDepth 100000
set_option maxRecDepth 100000
open Go.RowKit Go.ChangeShapes Go.WideShapes Go.Joins
/-- a world from which, one block apart, the later one has only grown, and that differs from the first in that block alone -/
theorem But.base2 {g : Nat} {w w' : World} (h : But (some g) w w') : ∃ wk : World, wk.heap.size = w.heap.size ∧ Ext wk w' ∧ But (some g) w wk := by
  by_cases hg : g < w.heap.size
  · have hg2 : g < w'.heap.size := Nat.lt_of_lt_of_le hg h.size
    refine ⟨{ w with heap := w.heap.modify g (fun _ => w'.heap[g]) }, by simp, ⟨h.os, h.tape, h.output, by simpa using h.size, fun k hk => ?_⟩, ⟨rfl, rfl, rfl, by simp, fun k _ hne => ?_⟩⟩
    · have hk2 : k < w.heap.size := by simpa using hk
      show w'.heap[k]? = (w.heap.modify g (fun _ => w'.heap[g]))[k]?
      rw [Array.getElem?_modify]
      by_cases e : g = k
      · subst e
        simp [hg, hg2]
      · rw [if_neg e]
        exact h.block k hk2 (by intro e9; cases e9; exact e rfl)
    · show (w.heap.modify g (fun _ => w'.heap[g]))[k]? = w.heap[k]?
      rw [Array.getElem?_modify, if_neg (by rintro rfl; exact hne rfl)]
  · exact ⟨w, rfl, ⟨h.os, h.tape, h.output, h.size, fun k hk => h.block k hk (by intro e9; cases e9; omega)⟩, But.refl _ _⟩
theorem FAt.far {w w' wk : World} {g n c : Nat} {A : Option Addr} {tab : Nat → Nat → Chc} (h : FAt w g n c A tab) (h1 : Ext wk w) (h2 : Ext wk w') (hg : g < wk.heap.size) : FAt w' g n c A tab := by
  obtain ⟨a1, a2, -⟩ := h1.facts
  obtain ⟨b1, b2, -⟩ := h2.facts
  exact ⟨(b1 _ _ hg).trans ((a1 _ _ hg).symm.trans h.hd), fun o => (b2 _ _ hg).trans ((a2 _ _ hg).symm.trans (h.fz o)), fun a m i ha hm hi => (b1 _ _ hg).trans ((a1 _ _ hg).symm.trans (h.tb a m i ha hm hi))⟩
/-- a list of one term just laid -/
theorem one_tm (w : World) (B : Nat) (e : TypeId) (N k : Int) (p : Bool) (a b : Int) {A : Option Addr} {n cap : Nat} {g : Tms} (hB : B ≤ w.heap.size) (hk : 0 ≤ k ∧ k ≤ 255) (hg : TvK w (fun b => B ≤ b) A n g) :
    OwnT (w.alloc (.cells #[.int .i64 N, .int .u8 k, .bool p, .int .i64 a, .int .i64 b, .slice A n cap] e)) B e (.slice (some ⟨w.heap.size, 0, none⟩) 1 1) 1 (.cons N ⟨k, p, a, b⟩ g .nil) := by
  refine ⟨rfl, [.int .i64 N, .int .u8 k, .bool p, .int .i64 a, .int .i64 b, .slice A n cap], ⟨rfl, .inr ⟨w.heap.size, 1, _, rfl, hB, heap_alloc_new w _, Nat.le_refl _, by unfold maxLen; omega, rfl, rfl⟩⟩, A, n, cap, [], rfl, hk, ?_, rfl⟩
  refine hg.keep (by simp) fun b' hlt hb => ⟨⟨hb, ?_⟩, fun o => ?_⟩
  · simp only [Value.ownBlock]
    intro e9
    cases e9
    omega
  · exact Below.cell (p := ⟨b', o, none⟩) ((Ext.refl w).alloc _) hlt
theorem OwnT.far {w w' : World} {B g k : Nat} {e : TypeId} {v : Value} {t : Tms} (h : OwnT w B e v k t) (hb : But (some g) w w') (hg : g < B) : OwnT w' B e v k t := by
  obtain ⟨h1, L, h2, h3⟩ := h
  refine ⟨h1, L, World.ownsRow.kept h2 hb (.inr ?_), h3.but hb fun b _ hb => ⟨hb, ?_⟩⟩
  · intro e9
    have := (own_blk h2 g e9).1
    omega
  · intro e9
    cases e9
    omega
theorem OwnT.low {w : World} {B B' k : Nat} {e : TypeId} {v : Value} {t : Tms} (h : OwnT w B e v k t) (hB : B' ≤ B) : OwnT w B' e v k t := by
  obtain ⟨h1, L, h2, h3⟩ := h
  refine ⟨h1, L, ⟨h2.1, ?_⟩, h3.keep (Nat.le_refl _) fun b _ hb => ⟨⟨by omega, hb.2⟩, fun _ => rfl⟩⟩
  rcases h2.2 with h | ⟨g, cap, cur, e1, hb, r⟩
  · exact .inl h
  · exact .inr ⟨g, cap, cur, e1, by omega, r⟩
/-- where what is put together lies -/
theorem OwnT.lies {w : World} {B k : Nat} {e : TypeId} {v : Value} {t : Tms} (h : OwnT w B e v k t) : ∃ A c L, v = .slice A k c ∧ RwK w (fun b => B ≤ b ∧ some b ≠ v.ownBlock) t L ∧ t.cnt = k ∧ (0 < k → ∃ ad, A = some ad ∧ ∀ j u, L[j]? = some u → w.cell? (ad.add j) = some u) := by
  obtain ⟨h1, L, h2, h3⟩ := h
  have hf : 0 < k → ∃ g cap, v = .slice (some ⟨g, 0, none⟩) k cap := fun hk => by
    obtain ⟨g, cap, hv, _, _⟩ := World.ownsRow.form h2 hk
    exact ⟨g, cap, hv⟩
  have hs : ∃ A c, v = .slice A k c := by
    rcases h2.2 with ⟨e1, e2⟩ | ⟨g, cap, cur, e1, _⟩
    · subst e2; exact ⟨none, 0, e1⟩
    · exact ⟨_, _, e1⟩
  obtain ⟨A, c, rfl⟩ := hs
  refine ⟨A, c, L, rfl, h3, h1, fun hk => ?_⟩
  obtain ⟨g, cap, hv⟩ := hf hk
  cases hv
  refine ⟨_, rfl, fun j u hu => ?_⟩
  rw [add_plain, Nat.zero_add]
  have hj : j < k * 6 := by rw [← h1, ← h3.len]; exact (List.getElem?_eq_some_iff.1 hu).1
  rw [World.ownsRow.cellAt h2 _ hj]
  exact hu
/-- what list has done -/
def ListR (l : List St) (g n c : Nat) (A : Option Addr) (T : TypeId) (t : Tms) (w : World) (e : Ending) (w' : World) : Prop :=
  ∃ v tab', e = .returned v ∧ FAt w' g n c A tab' ∧ (∀ N, TabOk l tab' N) ∧ But (some g) w w' ∧ OwnT w' w.heap.size T v t.cnt t
/-- what was put together by two calls, appended -/
theorem wp_append_two {P : Program} {o : Oper} {a : Act} {K : Act → World → Prop} {Q : Exit → Act → World → Prop} {w1 w2 wx : World} {g : Nat} (T e : TypeId) (z : Value) (bytes : Nat) {s x : Operand} {v1 v2 : Value} {t r : Tms}
    (ho : o.op = .call { callee := .builtin .append, args := #[s, x], argTypes := #[T, T] })
    (ht : P.underlying T = some (.slice e)) (hinfo : (P.info? e).map (fun i => (i.zero, i.size, i.bytes)) = some (some z, 6, bytes)) (hzs : z.cells.size = 6) (hby : bytes ≤ 1000)
    (hs : a.eval s = v1) (hx : a.eval x = v2) (h1 : OwnT w2 w1.heap.size e v1 t.cnt t) (h2 : OwnT wx w2.heap.size e v2 r.cnt r) (b1 : But (some g) w1 w2) (b2 : But (some g) w2 wx) (hg : g < w1.heap.size) (hk : t.cnt + r.cnt ≤ 1000000)
    (h : ∀ v' w3, OwnT w3 w1.heap.size e v' (t.cnt + r.cnt) (t.app r) → Hid (But (some g) w1 w3) → Hid (∀ n c A tab, FAt wx g n c A tab → FAt w3 g n c A tab) → K (a.put o.dst v') w3) : o.wp P a wx K Q := by
  obtain ⟨wk, hsz, hext, hbk⟩ := But.base2 (b1.trans b2)
  have h1' := h1.far b2 hg
  obtain ⟨A, c, L, rfl, hL, hrc, hA⟩ := h2.lies
  have hw2 := b1.size
  have hob : ∀ b, w2.heap.size ≤ b → some b ≠ v1.ownBlock := fun b hb e9 => by
    obtain ⟨_, L1, hL1, _⟩ := h1
    have := (own_blk hL1 b e9.symm).2
    omega
  rw [← hsz] at h1'
  refine wp_append_tms (w := wk) T e z bytes ho ht hinfo hzs hby hs hx h1' hext rfl (hL.keep (Nat.le_refl _) fun b _ hb => ⟨⟨by omega, hob b hb.1⟩, fun _ => rfl⟩) hA hk ?_
  intro v' w3 g1 g2
  refine h v' w3 (by rw [← hsz]; exact g1) (Lib.hid ?_) (Lib.hid fun n c A tab hf => hf.far hext g2.out (by omega))
  exact hbk.trans (But.of_ext g2.out _)
theorem step_append_two {P : Program} {ops : Array Oper} {E : Prop} {o : Oper} {a : Act} {K : Act → World → Prop} {Q : Exit → Act → World → Prop} {w1 w2 wx : World} {g : Nat} (T e : TypeId) (z : Value) (bytes : Nat) {s x : Operand} {v1 v2 : Value} {t r : Tms}
    (hgd : o.guard = none) (ho : o.op = .call { callee := .builtin .append, args := #[s, x], argTypes := #[T, T] })
    (ht : P.underlying T = some (.slice e)) (hinfo : (P.info? e).map (fun i => (i.zero, i.size, i.bytes)) = some (some z, 6, bytes)) (hzs : z.cells.size = 6) (hby : bytes ≤ 1000)
    (hs : a.eval s = v1) (hx : a.eval x = v2) (h1 : OwnT w2 w1.heap.size e v1 t.cnt t) (h2 : OwnT wx w2.heap.size e v2 r.cnt r) (b1 : But (some g) w1 w2) (b2 : But (some g) w2 wx) (hg : g < w1.heap.size) (hk : t.cnt + r.cnt ≤ 1000000)
    (h : ∀ v' w3, OwnT w3 w1.heap.size e v' (t.cnt + r.cnt) (t.app r) → Hid (But (some g) w1 w3) → Hid (∀ n c A tab, FAt wx g n c A tab → FAt w3 g n c A tab) → K (a.put o.dst v') w3) :
    if Region.wanted o (yielded ops a.tmps) = true then Oper.wp P o a wx K Q else E := by
  have hw : Region.wanted o (yielded ops a.tmps) = true := by simp [Region.wanted, hgd]
  rw [if_pos hw]
  exact wp_append_two T e z bytes ho ht hinfo hzs hby hs hx h1 h2 b1 b2 hg hk h
theorem mkT_cnt : ∀ (M : Nat) (l : List St), l ≠ [] → l.length ≤ M → (mkT M l).cnt ≤ l.length := by
  intro M l hl hM
  have h1 := (mkT_is M l hl hM).size
  have h2 := cnt_size (mkT M l)
  have h3 := ch_le l.length rfl hl
  omega
end Go.Proofs.YtfbfkoeaihknoaaGreatDoor
/- The finder of the shortest list: the walk of list. -/
namespace Go.Proofs.YtfbfkoeaihknoaaGreatDoor
set_option maxRecDepth 100000
set_option maxRecDepth 100000
open Go.RowKit Go.ChangeShapes Go.WideShapes Go.Joins
set_option maxHeartbeats 8000000 in
theorem list_any (g n c : Nat) (A : Option Addr) (l : List St) (hn : n ≤ 60) (hln : l.length = n) (hby : Bytes l) (hne : ∀ b off, A = some ⟨b, off, none⟩ → b ≠ g) : ∀ (M a m : Nat) (tab : Nat → Nat → Chc) (w : World), m ≤ M → 1 ≤ m → a + m ≤ n → Vec shSt w A n l → FAt w g n c A tab → (∀ N, TabOk l tab N) → ∀ (ai mi : Int), ai = (a : Int) → mi = (m : Int) →
    Calls Tryz.prog 41 #[.pointer (some ⟨g, 0, none⟩), .int .i64 ai, .int .i64 mi] w (ListR l g n c A 48 (mkT M (sub l a m)) w) := by
  intro M
  induction M with
  | zero => intro a m tab w h0 h1; omega
  | succ M ih =>
    intro a m tab w hM h1 ham hv ht hok ai mi hai hmi
    subst hai
    subst hmi
    have IH := Lib.hid ih
    have HV := Lib.hid hv
    have HT := Lib.hid ht
    have HOK := Lib.hid hok
    have ha : a < 60 := by omega
    have hm : m ≤ 60 := by omega
    have q0 : (0 : Int) ≤ (a : Int) := by omega
    have q1 : (a : Int) < 60 := by omega
    have q2 : (0 : Int) ≤ (m : Int) := by omega
    have q3 : (m : Int) < 61 := by omega
    have hsn := sub_ne (l := l) (a := a) (n := m) (by omega) h1
    have hsl := sub_len (l := l) (a := a) (n := m) (by omega)
    have hmd := ch_made hsn
    rw [hsl] at hmd
    obtain ⟨zt, hzt, hzs⟩ := info_tm
    have HZT := Lib.hid hzt
    have HZS := Lib.hid hzs
    clear ih hv ht hok hzt hzs
    go_enter Tryz.func41, Tryz.ntmps41
    go_upto_region 3 with (first
      | (go_at_call 60; go_loud ((with_reducible refine (least_any g n c A l hn hln hne m a m tab _ (Nat.le_refl _) h1 ham HV.out HT.out (HOK.out m) _ _ rfl rfl).mono ?_); rintro e w1 ⟨tab1, rfl, hq⟩; have HQ := Lib.hid hq; have c0 := hq.at_.tb a m 0 ha hm (by omega); have c1 := hq.at_.tb a m 1 ha hm (by omega); have c2 := hq.at_.tb a m 2 ha hm (by omega); rw [hq.it] at c0 c1 c2; rw [Nat.add_zero] at c0; have z1 := hq.at_.lt; clear hq)))
    have hmk : mkT (M + 1) (sub l a m) = if 0 < (ch (sub l a m)).part then (mkT M ((sub l a m).take (ch (sub l a m)).part)).app (mkT M ((sub l a m).drop (ch (sub l a m)).part)) else if 0 < (ch (sub l a m)).period then .cons (((sub l a m).length / (ch (sub l a m)).period : Nat) : Int) st0 (mkT M ((sub l a m).take (ch (sub l a m)).period)) .nil else .cons ((sub l a m).length : Int) ((sub l a m).getD 0 st0) .nil .nil := rfl
    obtain ⟨pt, hpt⟩ : ∃ x, (ch (sub l a m)).part = x := ⟨_, rfl⟩
    obtain ⟨pd, hpd⟩ : ∃ x, (ch (sub l a m)).period = x := ⟨_, rfl⟩
    have e1 : fld (ch (sub l a m)) 1 = pd := hpd
    have e2 : fld (ch (sub l a m)) 2 = pt := hpt
    rw [e1] at c1
    rw [e2] at c2
    rw [e1, e2]
    rw [hpt, hpd, hsl] at hmk
    rw [hpt, hpd] at hmd
    generalize hwb : World.alloc w1 _ = wb
    have hbz : wb.heap.size = w1.heap.size + 1 := by rw [← hwb]; simp
    have b1 : wb.cell? ⟨w1.heap.size, 1, none⟩ = some (.int .i64 (pd : Nat)) := by rw [← hwb]; simp [go_sem]
    have b2 : wb.cell? ⟨w1.heap.size, 2, none⟩ = some (.int .i64 (pt : Nat)) := by rw [← hwb]; simp [go_sem]
    have HEB := Lib.hid (show Ext w1 wb by rw [← hwb]; exact (Ext.refl _).alloc _)
    clear hwb c0 c1 c2
    have hb : (pt < m ∧ pd < m) := by
      rcases hmd with ⟨hx, -⟩ | ⟨h2, h3, h4, -⟩ | ⟨h2, h3, h4, -⟩
      · rw [hx] at hpt hpd
        simp only at hpt hpd
        omega
      · omega
      · omega
    have hd2 : 0 < pd → 2 ≤ pd := by
      rcases hmd with ⟨hx, -⟩ | ⟨h2, h3, h4, -⟩ | ⟨h2, h3, h4, -⟩
      · rw [hx] at hpd
        simp only at hpd
        omega
      · omega
      · omega
    have HW1 := Lib.hid (show Vec shSt wb A n l from (HV.out.far HQ.out.but hne).ext HEB.out)
    have HO1 := Lib.hid (HQ.out.all HOK.out)
    have HF1 := Lib.hid (HQ.out.at_.ext HEB.out)
    have hgw : g < w.heap.size := HT.out.lt
    have hw1 : w.heap.size ≤ w1.heap.size := HQ.out.but.size
    have HBW := Lib.hid (HQ.out.but.trans (But.of_ext HEB.out _))
    clear hmd hpt hpd e1 e2
    by_cases hp0 : 0 < pt
    · rw [if_pos hp0, sub_take (by omega), sub_drop (by omega)] at hmk
      have hx1 := sub_ne (l := l) (a := a) (n := pt) (by omega) (by omega)
      have hx2 := sub_ne (l := l) (a := a + pt) (n := m - pt) (by omega) (by omega)
      have k1 := mkT_cnt M (sub l a pt) hx1 (by rw [sub_len (by omega)]; omega)
      have k2 := mkT_cnt M (sub l (a + pt) (m - pt)) hx2 (by rw [sub_len (by omega)]; omega)
      rw [sub_len (by omega)] at k1 k2
      have HMK := Lib.hid hmk
      have t1 : ((0 : Int) < (pt : Int)) := by omega
      have i1 := IntWalk.i64_in ((a : Int) + (pt : Int)) (by omega)
      have i2 := IntWalk.i64_in ((m : Int) - (pt : Int)) (by omega)
      clear hmk hx1 hx2
      have E3 := Lib.hid (show (a : Int) + (pt : Int) = ((a + pt : Nat) : Int) by omega)
      have E4 := Lib.hid (show (m : Int) - (pt : Int) = ((m - pt : Nat) : Int) by omega)
      clear b1
      go_upto_region 4 with fail
      go_region_held3 (fun w' => w'.cell? ⟨w1.heap.size, 2, none⟩ = some (.int .i64 (pt : Nat))) (go_keep)
        (first
          | (go_at_call 41; (first
            | ((with_reducible refine (IH.out (a + pt) (m - pt) _ _ (by omega) (by omega) (by omega) (HV2.out.ext (by repeat (first | exact Ext.refl _ | assumption | refine Ext.alloc ?_ _ | refine Ext.drew ?_ | refine Ext.drewN ?_ _ | refine Ext.trans ?_ (by assumption)))) (HF2.out.ext (by repeat (first | exact Ext.refl _ | assumption | refine Ext.alloc ?_ _ | refine Ext.drew ?_ | refine Ext.drewN ?_ _ | refine Ext.trans ?_ (by assumption)))) HO2.out _ _ E3.out E4.out).mono ?_); rintro e w3 ⟨v2, tab3, rfl, hf3, ho3, hb3, hw3⟩; have HF3 := Lib.hid hf3; have HO3 := Lib.hid ho3; have HB3 := Lib.hid ((But.of_ext (by repeat (first | exact Ext.refl _ | assumption | refine Ext.alloc ?_ _ | refine Ext.drew ?_ | refine Ext.drewN ?_ _ | refine Ext.trans ?_ (by assumption))) (some g)).trans hb3 : But (some g) w2 w3); have HN3 := Lib.hid (show OwnT w3 w2.heap.size 48 v2 (mkT M (sub l (a + pt) (m - pt))).cnt (mkT M (sub l (a + pt) (m - pt))) from hw3); have b4 := (But.cell (p := ⟨w1.heap.size, 2, none⟩) HB3.out (by have := HB2.out.size; show w1.heap.size < w2.heap.size; omega) (by intro e9; have e8 : w1.heap.size = g := (by simpa using e9); omega)).trans b3; clear hf3 ho3 hb3 hw3)
            | (go_loud ((with_reducible refine (IH.out a pt _ _ (by omega) (by omega) (by omega) (HW1.out.ext (by repeat (first | exact Ext.refl _ | assumption | refine Ext.alloc ?_ _ | refine Ext.drew ?_ | refine Ext.drewN ?_ _ | refine Ext.trans ?_ (by assumption)))) (HF1.out.ext (by repeat (first | exact Ext.refl _ | assumption | refine Ext.alloc ?_ _ | refine Ext.drew ?_ | refine Ext.drewN ?_ _ | refine Ext.trans ?_ (by assumption)))) HO1.out _ _ rfl rfl).mono ?_); rintro e w2 ⟨v1, tab2, rfl, hf2, ho2, hb2, hw2⟩; have HF2 := Lib.hid hf2; have HO2 := Lib.hid ho2; have HB2 := Lib.hid ((But.of_ext (by repeat (first | exact Ext.refl _ | assumption | refine Ext.alloc ?_ _ | refine Ext.drew ?_ | refine Ext.drewN ?_ _ | refine Ext.trans ?_ (by assumption))) (some g)).trans hb2 : But (some g) wb w2); have HV2 := Lib.hid (HW1.out.far HB2.out hne); have HN2 := Lib.hid (show OwnT w2 wb.heap.size 48 v1 (mkT M (sub l a pt)).cnt (mkT M (sub l a pt)) from hw2); have b3 := (But.cell (p := ⟨w1.heap.size, 2, none⟩) HB2.out (by show w1.heap.size < wb.heap.size; omega) (by intro e9; have e8 : w1.heap.size = g := (by simpa using e9); omega)).trans b2; clear hf2 ho2 hb2 hw2))))
          | (refine step_append_two (g := g) 22 48 zt 56 (by rfl) (by rfl) Tryz.underlying22 HZT.out HZS.out (by omega) (by rfl) (by rfl) HN2.out HN3.out HB2.out HB3.out (by omega) (by omega) ?_; intro v' w4 hown4 hbut4 hkeep4; have b5 := (But.cell (p := ⟨w1.heap.size, 2, none⟩) hbut4.out (by show w1.heap.size < wb.heap.size; omega) (by intro e9; have e8 : w1.heap.size = g := (by simpa using e9); omega)).trans b2))
      go_wp2
      go_ret
      rw [HMK.out]
      exact ⟨_, tab3, rfl, hkeep4.out _ _ _ _ HF3.out, HO3.out, HBW.out.trans hbut4.out, by rw [app_cnt]; exact hown4.low (by omega)⟩
    have t1 : ¬ ((0 : Int) < (pt : Int)) := by omega
    rw [if_neg hp0] at hmk
    by_cases hp1 : 0 < pd
    · rw [if_pos hp1, sub_take (by omega)] at hmk
      have HMK := Lib.hid hmk
      have t2 : ((0 : Int) < (pd : Int)) := by omega
      have k1 := mkT_cnt M (sub l a pd) (sub_ne (l := l) (by omega) (by omega)) (by rw [sub_len (by omega)]; omega)
      rw [sub_len (by omega)] at k1
      have tz : ¬ pd = 0 := by omega
      obtain ⟨q, hq⟩ : ∃ q, m / pd = q := ⟨_, rfl⟩
      have td2 : (m : Int) / (pd : Int) = (q : Int) := by rw [← hq]; rfl
      have td : (m : Int).tdiv (pd : Int) = (q : Int) := by rw [Int.tdiv_eq_ediv_of_nonneg (by omega)]; exact td2
      have hqm : q ≤ m := by rw [← hq]; exact Nat.div_le_self _ _
      have tw := IntWalk.i64_in (q : Int) (by omega)
      have HQ9 := Lib.hid hq
      clear hq
      clear hmk
      go_upto_region 6 with fail
      go_region_held3 (fun w' => w'.cell? ⟨w1.heap.size, 1, none⟩ = some (.int .i64 (pd : Nat))) (go_keep)
        (first
          | (go_at_call 41; go_loud ((with_reducible refine (IH.out a pd _ _ (by omega) (by omega) (by omega) (HW1.out.ext (by repeat (first | exact Ext.refl _ | assumption | refine Ext.alloc ?_ _ | refine Ext.drew ?_ | refine Ext.drewN ?_ _ | refine Ext.trans ?_ (by assumption)))) (HF1.out.ext (by repeat (first | exact Ext.refl _ | assumption | refine Ext.alloc ?_ _ | refine Ext.drew ?_ | refine Ext.drewN ?_ _ | refine Ext.trans ?_ (by assumption)))) HO1.out _ _ rfl rfl).mono ?_); rintro e w2 ⟨v1, tab2, rfl, hf2, ho2, hb2, hw2⟩; obtain ⟨A2, c2, rfl, hk2⟩ := own_tms hw2 (by omega); have HF2 := Lib.hid hf2; have HO2 := Lib.hid ho2; have HB2 := Lib.hid ((But.of_ext (by repeat (first | exact Ext.refl _ | assumption | refine Ext.alloc ?_ _ | refine Ext.drew ?_ | refine Ext.drewN ?_ _ | refine Ext.trans ?_ (by assumption))) (some g)).trans hb2 : But (some g) wb w2); have HK2 := Lib.hid (show TvK w2 (fun b => wb.heap.size ≤ b) A2 (mkT M (sub l a pd)).cnt (mkT M (sub l a pd)) from hk2); have b3 := (But.cell (p := ⟨w1.heap.size, 1, none⟩) HB2.out (by show w1.heap.size < wb.heap.size; omega) (by intro e9; have e8 : w1.heap.size = g := (by simpa using e9); omega)).trans b1; clear hf2 ho2 hb2 hw2 hk2)))
      all_goals (go_wp2; go_ret; rw [HMK.out, HQ9.out]; exact ⟨_, tab2, rfl, HF2.out.ext ((Ext.refl _).alloc _), HO2.out, (HBW.out.trans HB2.out).trans (But.of_ext ((Ext.refl _).alloc _) _), one_tm w2 w.heap.size 48 (q : Int) 0 false 0 0 (by have := HB2.out.size; omega) (by omega) (HK2.out.mono fun b _ hb => by omega)⟩)
    have t2 : ¬ ((0 : Int) < (pd : Int)) := by omega
    rw [if_neg hp1, sub_get (by omega), Nat.add_zero] at hmk
    have HMK := Lib.hid hmk
    have HBY := Lib.hid (hby a (by omega))
    clear hmk hby
    obtain ⟨b, off, rfl, hb, hc⟩ := Sts.all HW1.out (by omega)
    obtain ⟨k1, k2, k3, k4⟩ := hc a (by omega)
    have g0 := HF1.out.hd
    have t3 : (a : Int) < (n : Int) := by omega
    generalize hs : l.getD a st0 = s at *
    obtain ⟨s1, s2, s3, s4⟩ := s
    simp only at k1 k2 k3 k4
    have n1 : ((a : Int)).toNat = a := by omega
    go_wp2_with fail
    go_ret
    rw [HMK.out]
    exact ⟨_, tab1, rfl, HF1.out.ext ((Ext.refl _).alloc _), HO1.out, HBW.out.trans (But.of_ext ((Ext.refl _).alloc _) _), by
      rw [← hbz]
      exact one_tm wb w.heap.size 48 (m : Int) s1 s2 s3 s4 (by omega) HBY.out (TvK.none_ _ _ _)⟩
end Go.Proofs.YtfbfkoeaihknoaaGreatDoor
/- Find of the shortest list. -/
namespace Go.Proofs.YtfbfkoeaihknoaaGreatDoor
set_option maxRecDepth 100000
set_option maxRecDepth 100000
open Go.RowKit Go.ChangeShapes Go.WideShapes Go.Joins
/-- what Find returns -/
def findE (l : List St) : Int := if 60 < l.length then 4 else if allB l = true then 0 else 8
def findL (l : List St) : Tms := if findE l = 0 then findT l else .nil
def FindR (l : List St) (w : World) (e : Ending) (w' : World) : Prop :=
  ∃ (A : Option Addr) (c : Nat), e = .returned (.tuple #[.slice A (findL l).cnt c, .int .i64 (findE l)]) ∧ Ext w w' ∧ TvK w' (fun b => w.heap.size ≤ b) A (findL l).cnt (findL l)
theorem FindR.none_ {l : List St} {w w' : World} {x : Int} (hx : findE l = x) (h0 : x ≠ 0) (h : Ext w w') : FindR l w (.returned (.tuple #[.slice none 0 0, .int .i64 x])) w' := by
  have h1 : findL l = .nil := by rw [findL, if_neg (by rw [hx]; exact h0)]
  exact ⟨none, 0, by rw [h1, hx]; rfl, h, by rw [h1]; exact TvK.none_ _ _ _⟩
set_option maxHeartbeats 8000000 in
theorem find_any (n c : Nat) (A : Option Addr) (l : List St) (w : World) (hl : Vec shSt w A n l) (hby : Bytes l) (hn : n ≤ maxLen) :
    Calls Tryz.prog 23 #[.slice A n c] w (FindR l w) := by
  have HX := Lib.hid hl
  have hlen := hl.1
  unfold maxLen at hn
  by_cases hn60 : 60 < n
  · have q1 : ((60 : Int) < (n : Int)) := by omega
    have HE := Lib.hid (show findE l = 4 by rw [findE, if_pos (by omega)])
    clear hl
    go_enter Tryz.func23, Tryz.ntmps23
    go_wp2_with fail
    go_ret2
    exact FindR.none_ HE.out (by decide) (by repeat (first | exact Ext.refl _ | assumption | refine Ext.alloc ?_ _ | refine Ext.drew ?_ | refine Ext.drewN ?_ _ | refine Ext.trans ?_ (by assumption)))
  have q1 : ¬ ((60 : Int) < (n : Int)) := by omega
  clear hl
  go_enter Tryz.func23, Tryz.ntmps23
  go_wp2_with fail
  go_loopw [12] (fun i wr => ∃ k : Nat, i = .int .i64 k ∧ k ≤ n ∧ Hid (∀ j, j < k → okSt (l.getD j st0) = true) ∧ Hid (Ext w wr)) (fun i _ => n - (intOf i).toNat)
  case atStart => exact ⟨0, rfl, by omega, Lib.hid (fun j hj => absurd hj (by omega)), Lib.hid (by repeat (first | exact Ext.refl _ | assumption | refine Ext.alloc ?_ _ | refine Ext.drew ?_ | refine Ext.drewN ?_ _ | refine Ext.trans ?_ (by assumption)))⟩
  case round =>
    obtain ⟨k, rfl, hk, HA, HE⟩ := hrel
    have hx := HE.out
    by_cases hlt : k < n
    · obtain ⟨b, off, rfl, hb, hc⟩ := Sts.all (HX.out.ext hx) (by omega)
      obtain ⟨c1, c2, c3, c4⟩ := hc k hlt
      have hby1 := hby k (by omega)
      have q0 : (0 : Int) ≤ (k : Int) := by omega
      have q2 : (k : Int) < (n : Int) := by omega
      have HOK := Lib.hid (show okSt (l.getD k st0) = false → findE l = 8 from fun h => by rw [findE, if_neg (by omega), if_neg (by rw [allB_bad (n := n) (k := k) hlen hlt h]; simp)])
      have HA2 := Lib.hid (show okSt (l.getD k st0) = true → ∀ j, j < k + 1 → okSt (l.getD j st0) = true from fun h j hj => by
        by_cases e : j = k
        · subst e; exact h
        · exact HA.out j (by omega))
      clear hc
      generalize hs : l.getD k st0 = s at *
      obtain ⟨s1, s2, s3, s4⟩ := s
      simp only at c1 c2 c3 c4 hby1
      clear hs
      cases hok : okSt ⟨s1, s2, s3, s4⟩
      case false =>
        have HQ := Lib.hid (show okE ⟨s1, s2, s3, s4⟩ = 8 by rw [okE, hok]; rfl)
        have HF := Lib.hid (HOK.out hok)
        clear HOK HA2 hok
        go_wp2_with (first
          | (go_at_call 40; go_loud ((with_reducible refine (check_any s1 s2 s3 s4 hby1.1 hby1.2 _).mono ?_); rintro e w2 ⟨rfl, hq⟩; rw [HQ.out])))
        go_ret2
        exact FindR.none_ HF.out (by decide) (by repeat (first | exact Ext.refl _ | assumption | refine Ext.alloc ?_ _ | refine Ext.drew ?_ | refine Ext.drewN ?_ _ | refine Ext.trans ?_ (by assumption)))
      case true =>
        have HQ := Lib.hid (show okE ⟨s1, s2, s3, s4⟩ = 0 by rw [okE, hok]; rfl)
        have HA3 := Lib.hid (HA2.out hok)
        clear HOK HA2 hok
        go_wp2_with (first
          | (go_at_call 40; go_loud ((with_reducible refine (check_any s1 s2 s3 s4 hby1.1 hby1.2 _).mono ?_); rintro e w2 ⟨rfl, hq⟩; rw [HQ.out])))
        go_roundw
        case rel => exact ⟨k + 1, by go_num, by omega, HA3, Lib.hid (by repeat (first | exact Ext.refl _ | assumption | refine Ext.alloc ?_ _ | refine Ext.drew ?_ | refine Ext.drewN ?_ _ | refine Ext.trans ?_ (by assumption)))⟩
        case measure => simp [intOf]; omega
    · obtain rfl : k = n := by omega
      have hall := allB_ok hlen HA.out
      have HB := Lib.hid hall
      by_cases hn0 : k = 0
      · subst hn0
        go_wp2_with fail
        go_ret2
        have e1 : l = [] := List.eq_nil_of_length_eq_zero hlen
        subst e1
        exact ⟨none, 0, rfl, HE.out, TvK.none_ _ _ _⟩
      have hn1 : ¬ ((k : Int) = 0) := by omega
      have hn2 : ((k : Int) == 0) = false := by rw [beq_eq_false_iff_ne]; exact hn1
      obtain ⟨Z, hZ, hZs, hZ0⟩ := zero_finder wr
      have hZe : ¬ (Z = #[]) := by rintro rfl; simp at hZs
      have HF := Lib.hid (FAt.new_ wr (t := 79) A k c hZs hZ0)
      have HNE := Lib.hid (show ∀ b off, A = some ⟨b, off, none⟩ → b ≠ wr.heap.size from fun b off e => by
        obtain ⟨b', off', e', hb, _⟩ := HX.out.2 (by omega)
        rw [e] at e'
        cases e'
        have := Below.size hx
        omega)
      have HV := Lib.hid (HX.out.ext (hx.trans ((Ext.refl wr).alloc (Obj.cells (Z.setIfInBounds 0 (Value.slice A k c)) 79))))
      have HW := Lib.hid (show Ext w (wr.alloc (Obj.cells (Z.setIfInBounds 0 (Value.slice A k c)) 79)) from hx.trans ((Ext.refl _).alloc _))
      have hsz : (wr.alloc (Obj.cells (Z.setIfInBounds 0 (Value.slice A k c)) 79)).heap.size = wr.heap.size + 1 := by simp
      clear hZs hZ0
      have HZ0 := Lib.hid (show (0 : Int) = ((0 : Nat) : Int) from rfl)
      go_upto_region 12 with (fail)
      generalize hwf : wr.alloc (Obj.cells (Z.setIfInBounds 0 (Value.slice A k c)) 79) = wf at *
      clear hZ hwf hn1 hn2
      have hcnt := mkT_cnt k l (by rintro rfl; simp at hlen; omega) (by omega)
      go_wp2_with (first
        | (go_at_call 41; go_loud ((with_reducible refine (list_any wr.heap.size k c A l (by omega) hlen hby HNE.out k 0 k _ _ (Nat.le_refl _) (by omega) (by omega) HV.out HF.out (TabOk.empty l) (0 : Int) (k : Int) HZ0.out rfl).mono ?_); rw [show sub l 0 k = l by rw [← hlen]; exact sub_all l]; rintro e w2 ⟨v1, tab2, rfl, hf2, ho2, hb2, hw2⟩; obtain ⟨A2, c2, rfl, hk2⟩ := own_tms hw2 (by omega); have HB2 := Lib.hid hb2; have HK2 := Lib.hid hk2; clear hf2 ho2 hb2 hw2 hk2)))
      go_ret2
      have hE : findE l = 0 := by rw [findE, if_neg (by omega), if_pos HB.out]
      have hL : findL l = mkT k l := by rw [findL, if_pos hE, findT, if_neg (by rintro rfl; simp at hlen; omega), hlen]
      have hws := Below.size hx
      refine ⟨A2, c2, by rw [hE, hL]; rfl, ?_, by rw [hL]; exact HK2.out.mono fun b _ hb => by omega⟩
      exact Below.trans HW.out (HB2.out.below (by omega) (fun k h => by cases h; exact hws))
end Go.Proofs.YtfbfkoeaihknoaaGreatDoor
/- The texts of stitches in plain Lean: what is written, and what is read. -/
namespace Go.Proofs.YtfbfkoeaihknoaaGreatDoor
set_option maxRecDepth 100000
/-- a digit -/
def dg (n : Nat) : UInt8 := UInt8.ofNat (48 + n % 10)
def isDg (c : UInt8) : Bool := decide (48 ≤ c) && decide (c ≤ 57)
/-- a number in decimal -/
def decF : Nat → Nat → List UInt8
  | 0, _ => []
  | f + 1, n => if n < 10 then [dg n] else decF f (n / 10) ++ [dg (n % 10)]
def decD (n : Nat) : List UInt8 := decF 20 n
/-- the number of some digits -/
def valD (l : List UInt8) : Nat := l.foldl (fun v c => 10 * v + (c.toNat - 48)) 0
/-- the first digits, at most so many -/
def headD : Nat → List UInt8 → Nat
  | 0, _ => 0
  | _ + 1, [] => 0
  | k + 1, c :: l => if isDg c then headD k l + 1 else 0
/-- reads a number of at most four digits, and what is behind it -/
def numR (l : List UInt8) : Int × List UInt8 := if headD 4 l = 0 then (-1, l) else ((valD (l.take (headD 4 l)) : Int), l.drop (headD 4 l))
/-- the text of a stitch -/
def wordT (s : St) : List UInt8 :=
  if s.k = 2 then [121, 111] else if s.k = 9 then [111, 110] ++ decD s.a.toNat
  else (if s.p then [112] else [107]) ++ flt s.k ++ (if 0 < fa1 s.k then decD s.a.toNat else []) ++ (if 0 < fb1 s.k then 47 :: decD s.b.toNat else [])
/-- equal knits one after the other are written once -/
def grp : List St → List (St × Nat)
  | [] => []
  | s :: l => match grp l with
    | (t, n) :: g => if s.k = 1 ∧ s = t then (t, n + 1) :: g else (s, 1) :: (t, n) :: g
    | [] => [(s, 1)]
def wordG (x : St × Nat) : List UInt8 := wordT x.1 ++ if 1 < x.2 then decD x.2 else []
/-- words with a byte between them -/
def joinB (c : UInt8) : List (List UInt8) → List UInt8
  | [] => []
  | [x] => x
  | x :: y :: l => x ++ c :: joinB c (y :: l)
def textL (l : List St) : List UInt8 := joinB 32 ((grp l).map wordG)
/-- a string cut at a byte -/
def spl (c : UInt8) : List UInt8 → List (List UInt8)
  | [] => [[]]
  | x :: l => if x = c then [] :: spl c l else match spl c l with
    | h :: t => (x :: h) :: t
    | [] => [[x]]
theorem spl_ne (c : UInt8) (l : List UInt8) : spl c l ≠ [] := by
  cases l with
  | nil => simp [spl]
  | cons x l =>
    unfold spl
    split
    · simp
    · split <;> simp
theorem spl_word {c : UInt8} {w : List UInt8} (h : c ∉ w) : spl c w = [w] := by
  induction w with
  | nil => rfl
  | cons x w ih =>
    have h1 : ¬ x = c := fun e => h (by simp [e])
    have h2 := ih (fun e => h (by simp [e]))
    unfold spl
    rw [if_neg h1, h2]
theorem spl_cons {c : UInt8} {w l : List UInt8} (h : c ∉ w) : spl c (w ++ c :: l) = w :: spl c l := by
  induction w with
  | nil => simp [spl]
  | cons x w ih =>
    have h1 : ¬ x = c := fun e => h (by simp [e])
    have h2 := ih (fun e => h (by simp [e]))
    rw [List.cons_append, spl, if_neg h1, h2]
theorem spl_join {c : UInt8} : ∀ {ws : List (List UInt8)}, ws ≠ [] → (∀ w ∈ ws, c ∉ w) → spl c (joinB c ws) = ws := by
  intro ws
  induction ws with
  | nil => intro h; exact absurd rfl h
  | cons x ws ih =>
    intro _ h
    cases ws with
    | nil => exact spl_word (h x (by simp))
    | cons y ws =>
      rw [joinB, spl_cons (h x (by simp)), ih (by simp) (fun w hw => h w (by simp at hw ⊢; exact .inr hw))]
/-- the kind of a letter -/
def kindL (c : UInt8) : Int := if c = 102 then 3 else if c = 108 then 4 else if c = 109 then 5 else if c = 120 then 6 else if c = 121 then 7 else if c = 115 then 8 else if c = 111 then 10 else if c = 63 then 0 else 3
def trimS (l : List UInt8) : List UInt8 := match l with
  | 47 :: t => t
  | l => l
def readK (p : Bool) (c : UInt8) (rest : List UInt8) : St :=
  let k := kindL c
  let a := if 0 < fa1 k then numR rest else (0, rest)
  ⟨k, p, a.1, if 0 < fb1 k then (numR (trimS a.2)).1 else 0⟩
/-- reads a word: the stitch, and how often it stands -/
def readW : List UInt8 → St × Int
  | [] => (st0, 1)
  | c :: rest =>
    if c = 121 ∧ rest = [111] then (⟨2, false, 0, 0⟩, 1)
    else if c = 111 ∧ rest.head? = some 110 then (⟨9, false, (numR rest.tail).1, 0⟩, 1)
    else if ¬ (c = 107 ∨ c = 112) then (st0, 1)
    else match rest with
      | [] => (⟨1, decide (c = 112), 0, 0⟩, 1)
      | d :: r => if 0 ≤ (numR (d :: r)).1 then (⟨1, decide (c = 112), 0, 0⟩, min (max (numR (d :: r)).1 1) 201) else (readK (decide (c = 112)) d r, 1)
/-- the valid stitches, all of them -/
def rng (lo hi : Nat) : List Int := (List.range (hi + 1 - lo)).map (fun i => ((lo + i : Nat) : Int))
def allSt : List St :=
  [false, true].flatMap (fun p => [⟨1, p, 0, 0⟩, ⟨8, p, 0, 0⟩] ++ (rng 2 4).flatMap (fun a => [⟨3, p, a, 0⟩, ⟨4, p, a, 0⟩, ⟨5, p, a, 0⟩])
    ++ (rng 1 6).flatMap (fun a => (rng 1 6).flatMap (fun b => [⟨6, p, a, b⟩, ⟨7, p, a, b⟩])) ++ (rng 1 200).map (fun a => ⟨10, p, a, 0⟩))
  ++ ⟨2, false, 0, 0⟩ :: (rng 1 200).map (fun a => ⟨9, false, a, 0⟩)
theorem mem_rng {lo hi : Nat} {x : Int} (h1 : (lo : Int) ≤ x) (h2 : x ≤ hi) : x ∈ rng lo hi := by
  rw [rng, List.mem_map]
  exact ⟨x.toNat - lo, List.mem_range.2 (by omega), by omega⟩
theorem mem_allSt {s : St} (h : okSt s = true) : s ∈ allSt := by
  obtain ⟨hk, ha, hb, hp⟩ := ok_e h
  have ha := inR_e ha
  have hb := inR_e hb
  obtain ⟨k, p, a, b⟩ := s
  simp only at hk ha hb hp
  have hpm : p ∈ [false, true] := by cases p <;> simp
  unfold allSt
  rw [List.mem_append]
  rcases kind_cases hk with e | e | e | e | e | e | e | e | e | e <;> subst e <;> simp [fa0, fa1, fb0, fb1, fsd] at ha hb hp
  · left
    obtain rfl : a = 0 := by omega
    obtain rfl : b = 0 := by omega
    exact List.mem_flatMap.2 ⟨p, hpm, by simp⟩
  · right
    obtain rfl : a = 0 := by omega
    obtain rfl : b = 0 := by omega
    subst hp
    simp
  · left
    obtain rfl : b = 0 := by omega
    exact List.mem_flatMap.2 ⟨p, hpm, List.mem_append_left _ (List.mem_append_left _ (List.mem_append_right _ (List.mem_flatMap.2 ⟨a, mem_rng (by omega) (by omega), by simp⟩)))⟩
  · left
    obtain rfl : b = 0 := by omega
    exact List.mem_flatMap.2 ⟨p, hpm, List.mem_append_left _ (List.mem_append_left _ (List.mem_append_right _ (List.mem_flatMap.2 ⟨a, mem_rng (by omega) (by omega), by simp⟩)))⟩
  · left
    obtain rfl : b = 0 := by omega
    exact List.mem_flatMap.2 ⟨p, hpm, List.mem_append_left _ (List.mem_append_left _ (List.mem_append_right _ (List.mem_flatMap.2 ⟨a, mem_rng (by omega) (by omega), by simp⟩)))⟩
  · left
    exact List.mem_flatMap.2 ⟨p, hpm, List.mem_append_left _ (List.mem_append_right _ (List.mem_flatMap.2 ⟨a, mem_rng (by omega) (by omega), List.mem_flatMap.2 ⟨b, mem_rng (by omega) (by omega), by simp⟩⟩))⟩
  · left
    exact List.mem_flatMap.2 ⟨p, hpm, List.mem_append_left _ (List.mem_append_right _ (List.mem_flatMap.2 ⟨a, mem_rng (by omega) (by omega), List.mem_flatMap.2 ⟨b, mem_rng (by omega) (by omega), by simp⟩⟩))⟩
  · left
    obtain rfl : a = 0 := by omega
    obtain rfl : b = 0 := by omega
    exact List.mem_flatMap.2 ⟨p, hpm, by simp⟩
  · right
    obtain rfl : b = 0 := by omega
    subst hp
    exact List.mem_cons_of_mem _ (List.mem_map.2 ⟨a, mem_rng (by omega) (by omega), rfl⟩)
  · left
    obtain rfl : b = 0 := by omega
    exact List.mem_flatMap.2 ⟨p, hpm, List.mem_append_right _ (List.mem_map.2 ⟨a, mem_rng (by omega) (by omega), rfl⟩)⟩
/-- what is asked of each valid word -/
def wordOk (s : St) : Bool := decide (readW (wordT s) = (s, 1)) && !(wordT s).contains 32 && !(wordT s).contains 10 && decide ((wordT s).length ≤ 5) && decide (0 < (wordT s).length)
theorem words_ok : allSt.all wordOk = true := by decide +kernel
def runOk (n : Nat) : Bool := [false, true].all (fun p => decide (readW (wordG (⟨1, p, 0, 0⟩, n + 2)) = (⟨1, p, 0, 0⟩, ((n + 2 : Nat) : Int))) && !(wordG (⟨1, p, 0, 0⟩, n + 2)).contains 32 && !(wordG (⟨1, p, 0, 0⟩, n + 2)).contains 10 && decide ((wordG (⟨1, p, 0, 0⟩, n + 2)).length ≤ 5))
theorem runs_ok : (List.range 199).all runOk = true := by decide +kernel
end Go.Proofs.YtfbfkoeaihknoaaGreatDoor
