/- Lists of terms that a call puts together; Twin and Same of terms. -/
import Derived.Test.YtgbmeefcnjdjbaaTmsE
import Derived.Test.YtgbmeefcnjdjbaaApp
namespace Go.Proofs.Ytgbmeefcnjdjbaa
set_option maxRecDepth 100000
open Go.RowKit Go.ChangeShapes Go.WideShapes Go.Joins
/-- as TAt; all blocks that are read meet a condition -/
def TAtK (w : World) (K : Nat → Prop) : Tms → Nat → Nat → Prop
  | .nil, _, _ => True
  | .cons N c g r, b, off => ∃ (A : Option Addr) (n cap : Nat), w.cell? ⟨b, off, none⟩ = some (.int .i64 N) ∧ w.cell? ⟨b, off + 1, none⟩ = some (.int .u8 c.k) ∧ w.cell? ⟨b, off + 2, none⟩ = some (.bool c.p) ∧
      w.cell? ⟨b, off + 3, none⟩ = some (.int .i64 c.a) ∧ w.cell? ⟨b, off + 4, none⟩ = some (.int .i64 c.b) ∧ w.cell? ⟨b, off + 5, none⟩ = some (.slice A n cap) ∧ (0 ≤ c.k ∧ c.k ≤ 255) ∧
      g.cnt = n ∧ n ≤ maxLen ∧ (0 < n → ∃ b' off', A = some ⟨b', off', none⟩ ∧ b' < w.heap.size ∧ K b' ∧ TAtK w K g b' off') ∧ TAtK w K r b (off + 6)
def TvK (w : World) (K : Nat → Prop) (A : Option Addr) (n : Nat) (t : Tms) : Prop := t.cnt = n ∧ n ≤ maxLen ∧ (0 < n → ∃ b off, A = some ⟨b, off, none⟩ ∧ b < w.heap.size ∧ K b ∧ TAtK w K t b off)
theorem TAtK.keep {w w' : World} {K K' : Nat → Prop} (hz : w.heap.size ≤ w'.heap.size) (hc : ∀ b, b < w.heap.size → K b → K' b ∧ ∀ o, w'.cell? ⟨b, o, none⟩ = w.cell? ⟨b, o, none⟩) :
    ∀ {t : Tms} {b off : Nat}, b < w.heap.size → K b → TAtK w K t b off → TAtK w' K' t b off := by
  intro t
  induction t with
  | nil => intro b off _ _ _; trivial
  | cons N c g r ih1 ih2 =>
    intro b off hlt hk0 ⟨A, n, cap, h0, h1, h2, h3, h4, h5, hk, hn, hm, hg, hr⟩
    have hb := (hc b hlt hk0).2
    refine ⟨A, n, cap, (hb _).trans h0, (hb _).trans h1, (hb _).trans h2, (hb _).trans h3, (hb _).trans h4, (hb _).trans h5, hk, hn, hm, fun h => ?_, ih2 hlt hk0 hr⟩
    obtain ⟨b', off', e, hlt', hk', hg'⟩ := hg h
    exact ⟨b', off', e, Nat.lt_of_lt_of_le hlt' hz, (hc b' hlt' hk').1, ih1 hlt' hk' hg'⟩
theorem TvK.keep {w w' : World} {K K' : Nat → Prop} {A : Option Addr} {n : Nat} {t : Tms} (h : TvK w K A n t) (hz : w.heap.size ≤ w'.heap.size) (hc : ∀ b, b < w.heap.size → K b → K' b ∧ ∀ o, w'.cell? ⟨b, o, none⟩ = w.cell? ⟨b, o, none⟩) : TvK w' K' A n t :=
  ⟨h.1, h.2.1, fun hn => by
    obtain ⟨b, off, e, hlt, hk, ht⟩ := h.2.2 hn
    exact ⟨b, off, e, Nat.lt_of_lt_of_le hlt hz, (hc b hlt hk).1, TAtK.keep hz hc hlt hk ht⟩⟩
theorem TvK.ext {w w' : World} {K : Nat → Prop} {A : Option Addr} {n : Nat} {t : Tms} (h : TvK w K A n t) (hb : Ext w w') : TvK w' K A n t :=
  h.keep (Below.size hb) fun b hlt hk => ⟨hk, fun o => Below.cell (p := ⟨b, o, none⟩) hb hlt⟩
theorem TvK.mono {w : World} {K K' : Nat → Prop} {A : Option Addr} {n : Nat} {t : Tms} (h : TvK w K A n t) (hk : ∀ b, b < w.heap.size → K b → K' b) : TvK w K' A n t :=
  h.keep (Nat.le_refl _) fun b hlt hb => ⟨hk b hlt hb, fun _ => rfl⟩
theorem TvK.but {w w' : World} {K K' : Nat → Prop} {E : Option Nat} {A : Option Addr} {n : Nat} {t : Tms} (h : TvK w K A n t) (hb : But E w w') (hk : ∀ b, b < w.heap.size → K b → K' b ∧ some b ≠ E) : TvK w' K' A n t :=
  h.keep hb.size fun b hlt hkb => ⟨(hk b hlt hkb).1, fun o => hb.cell (p := ⟨b, o, none⟩) hlt (hk b hlt hkb).2⟩
theorem TAtK.tat {w : World} {K : Nat → Prop} : ∀ {t : Tms} {b off : Nat}, TAtK w K t b off → TAt w t b off := by
  intro t
  induction t with
  | nil => intro b off _; trivial
  | cons N c g r ih1 ih2 =>
    intro b off ⟨A, n, cap, h0, h1, h2, h3, h4, h5, hk, hn, hm, hg, hr⟩
    refine ⟨A, n, cap, h0, h1, h2, h3, h4, h5, hk, hn, hm, fun h => ?_, ih2 hr⟩
    obtain ⟨b', off', e, hlt', _, hg'⟩ := hg h
    exact ⟨b', off', e, hlt', ih1 hg'⟩
theorem TvK.tv {w : World} {K : Nat → Prop} {A : Option Addr} {n : Nat} {t : Tms} (h : TvK w K A n t) : Tv w A n t :=
  ⟨h.1, h.2.1, fun hn => by
    obtain ⟨b, off, e, hlt, _, ht⟩ := h.2.2 hn
    exact ⟨b, off, e, hlt, ht.tat⟩⟩
theorem TvK.none_ (w : World) (K : Nat → Prop) (A : Option Addr) : TvK w K A 0 .nil := ⟨rfl, by unfold maxLen; omega, fun h => absurd h (by omega)⟩
/-- the cells of a list of terms, one behind the other; the groups lie elsewhere -/
def RwK (w : World) (K : Nat → Prop) : Tms → List Value → Prop
  | .nil, L => L = []
  | .cons N c g r, L => ∃ (A : Option Addr) (n cap : Nat) (L' : List Value), L = [.int .i64 N, .int .u8 c.k, .bool c.p, .int .i64 c.a, .int .i64 c.b, .slice A n cap] ++ L' ∧ (0 ≤ c.k ∧ c.k ≤ 255) ∧ TvK w K A n g ∧ RwK w K r L'
theorem RwK.keep {w w' : World} {K K' : Nat → Prop} (hz : w.heap.size ≤ w'.heap.size) (hc : ∀ b, b < w.heap.size → K b → K' b ∧ ∀ o, w'.cell? ⟨b, o, none⟩ = w.cell? ⟨b, o, none⟩) :
    ∀ {t : Tms} {L : List Value}, RwK w K t L → RwK w' K' t L := by
  intro t
  induction t with
  | nil => intro L h; exact h
  | cons N c g r _ ih =>
    intro L ⟨A, n, cap, L', e, hk, hg, hr⟩
    exact ⟨A, n, cap, L', e, hk, hg.keep hz hc, ih hr⟩
theorem RwK.ext {w w' : World} {K : Nat → Prop} {t : Tms} {L : List Value} (h : RwK w K t L) (hb : Ext w w') : RwK w' K t L :=
  h.keep (Below.size hb) fun b hlt hk => ⟨hk, fun o => Below.cell (p := ⟨b, o, none⟩) hb hlt⟩
theorem RwK.but {w w' : World} {K K' : Nat → Prop} {E : Option Nat} {t : Tms} {L : List Value} (h : RwK w K t L) (hb : But E w w') (hk : ∀ b, b < w.heap.size → K b → K' b ∧ some b ≠ E) : RwK w' K' t L :=
  h.keep hb.size fun b hlt hkb => ⟨(hk b hlt hkb).1, fun o => hb.cell (p := ⟨b, o, none⟩) hlt (hk b hlt hkb).2⟩
theorem RwK.app {w : World} {K : Nat → Prop} : ∀ {a b : Tms} {L M : List Value}, RwK w K a L → RwK w K b M → RwK w K (a.app b) (L ++ M) := by
  intro a
  induction a with
  | nil => intro b L M h h2; rw [show L = [] from h]; exact h2
  | cons N c g r _ ih =>
    intro b L M ⟨A, n, cap, L', e, hk, hg, hr⟩ h2
    exact ⟨A, n, cap, L' ++ M, by rw [e, List.append_assoc], hk, hg, ih hr h2⟩
theorem RwK.len {w : World} {K : Nat → Prop} : ∀ {t : Tms} {L : List Value}, RwK w K t L → L.length = t.cnt * 6 := by
  intro t
  induction t with
  | nil => intro L h; rw [show L = [] from h]; rfl
  | cons N c g r _ ih =>
    intro L ⟨A, n, cap, L', e, hk, hg, hr⟩
    have := ih hr
    rw [e]
    simp only [List.length_append, List.length_cons, List.length_nil, Tms.cnt, this]
    omega
theorem RwK.one {w : World} {K : Nat → Prop} : ∀ {t : Tms} {L : List Value}, RwK w K t L → ∀ u ∈ L, u.oneCell' = true := by
  intro t
  induction t with
  | nil => intro L h u hu; rw [show L = [] from h] at hu; cases hu
  | cons N c g r _ ih =>
    intro L ⟨A, n, cap, L', e, hk, hg, hr⟩ u hu
    rw [e, List.mem_append] at hu
    rcases hu with hu | hu
    · simp only [List.mem_cons, List.not_mem_nil, or_false] at hu
      rcases hu with rfl | rfl | rfl | rfl | rfl | rfl <;> rfl
    · exact ih hr u hu
/-- cells that lie in a block make a reading -/
theorem RwK.at_ {w : World} {K : Nat → Prop} : ∀ {t : Tms} {L : List Value} {b off : Nat}, RwK w K t L → (∀ j u, L[j]? = some u → w.cell? ⟨b, off + j, none⟩ = some u) → TAtK w K t b off := by
  intro t
  induction t with
  | nil => intro L b off _ _; trivial
  | cons N c g r _ ih =>
    intro L b off ⟨A, n, cap, L', e, hk, hg, hr⟩ h
    subst e
    refine ⟨A, n, cap, h 0 _ rfl, h 1 _ rfl, h 2 _ rfl, h 3 _ rfl, h 4 _ rfl, h 5 _ rfl, hk, hg.1, hg.2.1, hg.2.2, ih hr (fun j u hu => ?_)⟩
    rw [show off + 6 + j = off + (6 + j) by omega]
    refine h (6 + j) u ?_
    rw [List.getElem?_append_right (by simp)]
    simpa using hu
/-- and the other way about -/
theorem TAtK.row {w : World} {K : Nat → Prop} : ∀ {t : Tms} {b off : Nat}, TAtK w K t b off → ∃ L, RwK w K t L ∧ ∀ j u, L[j]? = some u → w.cell? ⟨b, off + j, none⟩ = some u := by
  intro t
  induction t with
  | nil => intro b off _; exact ⟨[], rfl, fun j u h => by simp at h⟩
  | cons N c g r _ ih =>
    intro b off ⟨A, n, cap, h0, h1, h2, h3, h4, h5, hk, hn, hm, hg, hr⟩
    obtain ⟨L', hL, hc⟩ := ih hr
    refine ⟨_, ⟨A, n, cap, L', rfl, hk, ⟨hn, hm, hg⟩, hL⟩, fun j u hu => ?_⟩
    rcases Nat.lt_or_ge j 6 with hj | hj
    · rw [List.getElem?_append_left (by simpa using hj)] at hu
      match j, hj, hu with
      | 0, _, hu => simp at hu; subst hu; exact h0
      | 1, _, hu => simp at hu; subst hu; exact h1
      | 2, _, hu => simp at hu; subst hu; exact h2
      | 3, _, hu => simp at hu; subst hu; exact h3
      | 4, _, hu => simp at hu; subst hu; exact h4
      | 5, _, hu => simp at hu; subst hu; exact h5
    · rw [List.getElem?_append_right (by simpa using hj)] at hu
      have := hc (j - 6) u (by simpa using hu)
      rwa [show off + 6 + (j - 6) = off + j by omega] at this
/-- the call has put together these terms; all that is read of them is the call's own -/
def OwnT (w : World) (B : Nat) (e : TypeId) (v : Value) (k : Nat) (t : Tms) : Prop := t.cnt = k ∧ ∃ L, w.ownsRow B e 6 v k L ∧ RwK w (fun b => B ≤ b ∧ some b ≠ v.ownBlock) t L
theorem OwnT.nil (w : World) (B : Nat) (e : TypeId) : OwnT w B e (.slice none 0 0) 0 .nil := ⟨rfl, [], World.ownsRow_nil _ _ _ _, rfl⟩
theorem OwnT.ext {w w' : World} {B : Nat} {e : TypeId} {v : Value} {k : Nat} {t : Tms} (h : OwnT w B e v k t) (hb : Ext w w') : OwnT w' B e v k t := by
  obtain ⟨h1, L, h2, h3⟩ := h
  exact ⟨h1, L, World.ownsRow.kept h2 (But.of_ext hb none) (by cases v.ownBlock <;> simp), h3.ext hb⟩
/-- what is put together is a slice that reads as the terms -/
theorem own_tms {w : World} {B k : Nat} {e : TypeId} {v : Value} {t : Tms} (h : OwnT w B e v k t) (hk : k ≤ 1000000) : ∃ A c, v = .slice A k c ∧ TvK w (fun b => B ≤ b) A k t := by
  obtain ⟨h1, L, h2, h3⟩ := h
  have hm : k ≤ maxLen := by unfold maxLen; omega
  rcases h2.2 with ⟨e1, e2⟩ | ⟨g, cap, cur, e1, _⟩
  · subst e2
    subst e1
    exact ⟨none, 0, rfl, h1, by unfold maxLen; omega, fun h => absurd h (by omega)⟩
  · subst e1
    refine ⟨_, _, rfl, h1, hm, fun hn => ?_⟩
    obtain ⟨g', cap', hv, _, hlt⟩ := World.ownsRow.form h2 hn
    simp only [Value.slice.injEq, true_and] at hv
    obtain ⟨hA, hc⟩ := hv
    cases hA
    refine ⟨g, 0, rfl, hlt, (own_blk h2 g (by simp [Value.ownBlock])).1, ?_⟩
    refine RwK.at_ (L := L) (h3.keep (Nat.le_refl _) fun b _ hb => ⟨hb.1, fun _ => rfl⟩) fun j u hu => ?_
    have hj : j < k * 6 := by rw [← h1, ← h3.len]; exact (List.getElem?_eq_some_iff.1 hu).1
    rw [Nat.zero_add, World.ownsRow.cellAt h2 _ hj]
    exact hu
section
variable {P : Program} {ops : Array Oper} {rest : List Oper} {o : Oper} {a : Act} {K : Act → World → Prop} {Q : Exit → Act → World → Prop} {E : Prop} {w wx : World}
theorem app_cnt : ∀ (t r : Tms), (t.app r).cnt = t.cnt + r.cnt := by
  intro t r
  induction t with
  | nil => simp [Tms.app, Tms.cnt]
  | cons N c g r' _ ih => simp only [Tms.app, Tms.cnt, ih]; omega
/-- terms appended to what the call has put together; what is read of the new ones is the call's own, and not the row itself -/
theorem wp_append_tms (T e : TypeId) (z : Value) (bytes : Nat) {s x : Operand} {v : Value} {k m c : Nat} {A : Option Addr} {t r : Tms} {L : List Value}
    (ho : o.op = .call { callee := .builtin .append, args := #[s, x], argTypes := #[T, T] })
    (ht : P.underlying T = some (.slice e)) (hinfo : (P.info? e).map (fun i => (i.zero, i.size, i.bytes)) = some (some z, 6, bytes)) (hzs : z.cells.size = 6) (hby : bytes ≤ 1000)
    (hs : a.eval s = v) (hx : a.eval x = .slice A m c) (hown : OwnT wx w.heap.size e v k t) (hext : Ext w wx) (hr : r.cnt = m)
    (hL : RwK wx (fun b => w.heap.size ≤ b ∧ some b ≠ v.ownBlock) r L) (hA : 0 < m → ∃ ad, A = some ad ∧ ∀ j u, L[j]? = some u → wx.cell? (ad.add j) = some u) (hk : k + m ≤ 1000000)
    (h : ∀ v' w1, OwnT w1 w.heap.size e v' (k + m) (t.app r) → Hid (Ext w w1) → K (a.put o.dst v') w1) : o.wp P a wx K Q := by
  obtain ⟨h1, L0, h2, h3⟩ := hown
  refine wp_append_cells T e z 6 bytes ho ht hinfo hzs (by omega) hby hs hx h2 hext (by rw [hL.len, hr]) hA hL.one hk ?_
  intro v' w1 g1 g2 g3 g4
  refine h v' w1 ⟨?_, L0 ++ L, g1, ?_⟩ g2
  · rw [← hr, ← h1]
    exact app_cnt t r
  · have hb : ∀ b, b < wx.heap.size → (w.heap.size ≤ b ∧ some b ≠ v.ownBlock) → (w.heap.size ≤ b ∧ some b ≠ v'.ownBlock) ∧ some b ≠ v.ownBlock := fun b hlt hb => by
      refine ⟨⟨hb.1, ?_⟩, hb.2⟩
      rcases g4 with g4 | g4
      · rw [g4]; exact hb.2
      · rw [g4]; intro e; cases e; omega
    exact (h3.but g3 hb).app (hL.but g3 hb)
end
theorem info_tm0 : (Try.prog.info? 48).map (fun i => (i.zero.map (fun z => z.cells.size), i.size, i.bytes)) = some (some 6, 6, 56) := by kernel_rfl
theorem info_tm : ∃ z : Value, (Try.prog.info? 48).map (fun i => (i.zero, i.size, i.bytes)) = some (some z, 6, 56) ∧ z.cells.size = 6 := by
  have h := info_tm0
  rw [Option.map_eq_some_iff] at h
  obtain ⟨i, hi, he⟩ := h
  simp only [Prod.mk.injEq] at he
  obtain ⟨h1, h2, h3⟩ := he
  rw [Option.map_eq_some_iff] at h1
  obtain ⟨z, hz, hs⟩ := h1
  exact ⟨z, by rw [hi, Option.map_some, hz, h2, h3], hs⟩
/-- a term in a block of its own, appended -/
theorem wp_append_tm {P : Program} {o : Oper} {a : Act} {K : Act → World → Prop} {Q : Exit → Act → World → Prop} {w wx : World} (T e : TypeId) (z : Value) (bytes : Nat) {s x : Operand} {v : Value} {k : Nat} (g0 : Nat) {t g : Tms} (N : Int) (c : St) {A : Option Addr} {n cap : Nat}
    (ho : o.op = .call { callee := .builtin .append, args := #[s, x], argTypes := #[T, T] })
    (ht : P.underlying T = some (.slice e)) (hinfo : (P.info? e).map (fun i => (i.zero, i.size, i.bytes)) = some (some z, 6, bytes)) (hzs : z.cells.size = 6) (hby : bytes ≤ 1000)
    (hs : a.eval s = v) (hx : a.eval x = .slice (some ⟨g0, 0, none⟩) 1 1) (hown : OwnT wx w.heap.size e v k t) (hext : Ext w wx) (hck : 0 ≤ c.k ∧ c.k ≤ 255)
    (hg : TvK wx (fun b => w.heap.size ≤ b ∧ some b ≠ v.ownBlock) A n g)
    (hA : ∀ j u, ([.int .i64 N, .int .u8 c.k, .bool c.p, .int .i64 c.a, .int .i64 c.b, .slice A n cap] : List Value)[j]? = some u → wx.cell? ⟨g0, j, none⟩ = some u) (hk : k + 1 ≤ 1000000)
    (h : ∀ v' w1, OwnT w1 w.heap.size e v' (k + 1) (t.app (.cons N c g .nil)) → Hid (Ext w w1) → K (a.put o.dst v') w1) : o.wp P a wx K Q :=
  wp_append_tms T e z bytes (r := .cons N c g .nil) (L := [.int .i64 N, .int .u8 c.k, .bool c.p, .int .i64 c.a, .int .i64 c.b, .slice A n cap]) ho ht hinfo hzs hby hs hx hown hext rfl
    ⟨A, n, cap, [], rfl, hck, hg, rfl⟩ (fun _ => ⟨_, rfl, fun j u hu => by rw [add_plain, Nat.zero_add]; exact hA j u hu⟩) hk h
theorem step_append_tm {P : Program} {ops : Array Oper} {E : Prop} {o : Oper} {a : Act} {K : Act → World → Prop} {Q : Exit → Act → World → Prop} {w wx : World} (T e : TypeId) (z : Value) (bytes : Nat) {s x : Operand} {v : Value} {k : Nat} (g0 : Nat) {t g : Tms} (N : Int) (c : St) {A : Option Addr} {n cap : Nat}
    (hgd : o.guard = none) (ho : o.op = .call { callee := .builtin .append, args := #[s, x], argTypes := #[T, T] })
    (ht : P.underlying T = some (.slice e)) (hinfo : (P.info? e).map (fun i => (i.zero, i.size, i.bytes)) = some (some z, 6, bytes)) (hzs : z.cells.size = 6) (hby : bytes ≤ 1000)
    (hs : a.eval s = v) (hx : a.eval x = .slice (some ⟨g0, 0, none⟩) 1 1) (hown : OwnT wx w.heap.size e v k t) (hext : Ext w wx) (hck : 0 ≤ c.k ∧ c.k ≤ 255)
    (hg : TvK wx (fun b => w.heap.size ≤ b ∧ some b ≠ v.ownBlock) A n g)
    (hA : ∀ j u, ([.int .i64 N, .int .u8 c.k, .bool c.p, .int .i64 c.a, .int .i64 c.b, .slice A n cap] : List Value)[j]? = some u → wx.cell? ⟨g0, j, none⟩ = some u) (hk : k + 1 ≤ 1000000)
    (h : ∀ v' w1, OwnT w1 w.heap.size e v' (k + 1) (t.app (.cons N c g .nil)) → Hid (Ext w w1) → K (a.put o.dst v') w1) :
    if Region.wanted o (yielded ops a.tmps) = true then Oper.wp P o a wx K Q else E := by
  have hw : Region.wanted o (yielded ops a.tmps) = true := by simp [Region.wanted, hgd]
  rw [if_pos hw]
  exact wp_append_tm T e z bytes g0 N c ho ht hinfo hzs hby hs hx hown hext hck hg hA hk h
/-- a call has returned these terms, made by itself -/
def TmsR (t : Tms) (w : World) (e : Ending) (w' : World) : Prop := ∃ (A : Option Addr) (n c : Nat), e = .returned (.slice A n c) ∧ Ext w w' ∧ TvK w' (fun b => w.heap.size ≤ b) A n t
theorem app_nil : ∀ t : Tms, t.app .nil = t := by
  intro t
  induction t with
  | nil => rfl
  | cons N c g r _ ih => rw [Tms.app, ih]
theorem app_assoc : ∀ a b c : Tms, (a.app b).app c = a.app (b.app c) := by
  intro a
  induction a with
  | nil => intro b c; rfl
  | cons N x g r _ ih => intro b c; rw [Tms.app, Tms.app, Tms.app, ih]
theorem tm_new (w : World) (N k : Int) (p : Bool) (a b : Int) (v : Value) (T : TypeId) :
    ∀ j u, ([.int .i64 N, .int .u8 k, .bool p, .int .i64 a, .int .i64 b, v] : List Value)[j]? = some u → (w.alloc (.cells #[.int .i64 N, .int .u8 k, .bool p, .int .i64 a, .int .i64 b, v] T)).cell? ⟨w.heap.size, j, none⟩ = some u := by
  intro j u hj
  have h : (w.alloc (.cells #[.int .i64 N, .int .u8 k, .bool p, .int .i64 a, .int .i64 b, v] T)).heap[w.heap.size]? = some (.cells #[.int .i64 N, .int .u8 k, .bool p, .int .i64 a, .int .i64 b, v] T) := heap_alloc_new w _
  rw [cell_of_row _ w.heap.size _ _ T (0, 0) h]
  simpa using hj
attribute [local go_sem] run_equalIn_st
set_option maxHeartbeats 4000000 in
theorem same_any : ∀ (M : Nat), M ≤ 5000 → ∀ (t : Tms), t.size ≤ M → ∀ (A B : Option Addr) (n m cap dap : Nat) (w : World), Tv w A n t → Tv w B m t →
    Calls Try.prog 7 #[.slice A n cap, .slice B m dap] w fun e w' => e = .returned (.bool true) ∧ Ext w w' := by
  intro M
  induction M using Nat.strongRecOn with
  | ind M ih =>
    intro hM t ht A B n m cap dap w hv hu
    obtain rfl : n = m := hv.1.symm.trans hu.1
    have HI := Lib.hid ih
    have HV := Lib.hid hv
    have HU := Lib.hid hu
    have hnm : n ≤ 5000 := by have h1 := hv.1; have h2 := cnt_size t; omega
    clear ih hv hu
    go_enter Try.func7, Try.ntmps7
    go_wp2_with fail
    go_loopw [5] (fun i wr => ∃ (k : Nat) (rest : Tms), i = .int .i64 k ∧ rest.cnt + k = n ∧ rest.size ≤ M ∧
      Hid (Ext w wr ∧ (0 < rest.cnt → ∃ b off, A = some ⟨b, off, none⟩ ∧ b < wr.heap.size ∧ TAt wr rest b (off + k * 6)) ∧ (0 < rest.cnt → ∃ b off, B = some ⟨b, off, none⟩ ∧ b < wr.heap.size ∧ TAt wr rest b (off + k * 6)))) (fun i _ => n - (intOf i).toNat)
    case atStart =>
      refine ⟨0, t, rfl, by have := HV.out.1; omega, ht, Lib.hid ⟨Ext.refl _, fun h => ?_, fun h => ?_⟩⟩
      · obtain ⟨h1, h2, h3⟩ := HV.out
        obtain ⟨b, off, e, hb, hc⟩ := h3 (by omega)
        exact ⟨b, off, e, hb, by simpa using hc⟩
      · obtain ⟨h1, h2, h3⟩ := HU.out
        obtain ⟨b, off, e, hb, hc⟩ := h3 (by omega)
        exact ⟨b, off, e, hb, by simpa using hc⟩
    case round =>
      obtain ⟨k, rest, rfl, hcnt, hrs, HH⟩ := hrel
      by_cases hlt : 0 < rest.cnt
      · obtain ⟨N, c, g, r, rfl⟩ := cnt_cons hlt
        obtain ⟨b, off, rfl, hb1, hc⟩ := HH.out.2.1 hlt
        obtain ⟨b', off', rfl, hb2, hd⟩ := HH.out.2.2 hlt
        obtain ⟨A', n', cap', c0, c1, c2, c3, c4, c5, hkk, hg, hr⟩ := hc.head
        obtain ⟨B', m', dap', d0, d1, d2, d3, d4, d5, hkk', hg', hr'⟩ := hd.head
        have hxr := HH.out.1
        simp only [Tms.cnt, Tms.size] at hcnt hrs
        have hkn : k < n := by omega
        have hcall := fun (w' : World) (h : Ext wr w') => HI.out (M - 1) (by omega) (by omega) g (by omega) A' B' n' m' cap' dap' w' (hg.ext h) (hg'.ext h)
        have HC := Lib.hid hcall
        have q0 : (0 : Int) ≤ (k : Int) := by omega
        have q1 : (k : Int) < (n : Int) := by omega
        clear hcall hc hd hkk hkk'
        obtain ⟨ck, cp, ca, cb⟩ := c
        simp only at c1 c2 c3 c4 d1 d2 d3 d4
        obtain ⟨wq, rfl⟩ : ∃ wq : World, wq = wr := ⟨_, rfl⟩
        go_wp2_with fail
        go_region_held3 (fun w' => w'.cell? ⟨b, off + k * 6, none⟩ = some (.int .i64 N) ∧ w'.cell? ⟨b, off + k * 6 + 1, none⟩ = some (.int .u8 ck) ∧ w'.cell? ⟨b, off + k * 6 + 2, none⟩ = some (.bool cp) ∧ w'.cell? ⟨b, off + k * 6 + 3, none⟩ = some (.int .i64 ca) ∧ w'.cell? ⟨b, off + k * 6 + 4, none⟩ = some (.int .i64 cb) ∧ w'.cell? ⟨b, off + k * 6 + 5, none⟩ = some (.slice A' n' cap') ∧ w'.cell? ⟨b', off' + k * 6, none⟩ = some (.int .i64 N) ∧ w'.cell? ⟨b', off' + k * 6 + 1, none⟩ = some (.int .u8 ck) ∧ w'.cell? ⟨b', off' + k * 6 + 2, none⟩ = some (.bool cp) ∧ w'.cell? ⟨b', off' + k * 6 + 3, none⟩ = some (.int .i64 ca) ∧ w'.cell? ⟨b', off' + k * 6 + 4, none⟩ = some (.int .i64 cb) ∧ w'.cell? ⟨b', off' + k * 6 + 5, none⟩ = some (.slice B' m' dap')) (go_keep)
          (first | (go_at_call 7; ((with_reducible refine (HC.out _ (by repeat (first | exact Ext.refl _ | assumption | refine Ext.alloc ?_ _ | refine Ext.drew ?_ | refine Ext.drewN ?_ _ | refine Ext.trans ?_ (by assumption)))).mono ?_); rintro e w1 ⟨rfl, hq1⟩; have hq9 : Ext wq w1 := (by repeat (first | exact Ext.refl _ | assumption | refine Ext.alloc ?_ _ | refine Ext.drew ?_ | refine Ext.drewN ?_ _ | refine Ext.trans ?_ (by assumption))); obtain ⟨hf1, hf2, hf3⟩ := hq9.facts)))
        go_wp2
        go_roundw
        case rel =>
          refine ⟨k + 1, r, by go_num, by omega, by omega, Lib.hid ⟨HH.out.1.trans hq9, fun h => ?_, fun h => ?_⟩⟩
          · refine ⟨b, off, rfl, Nat.lt_of_lt_of_le hb1 (Below.size hq9), ?_⟩
            rw [show off + (k + 1) * 6 = off + k * 6 + 6 by omega]
            exact hr.ext hq9 hb1
          · refine ⟨b', off', rfl, Nat.lt_of_lt_of_le hb2 (Below.size hq9), ?_⟩
            rw [show off' + (k + 1) * 6 = off' + k * 6 + 6 by omega]
            exact hr'.ext hq9 hb2
        case measure => simp [intOf]; omega
      · have hn0 : rest.cnt = 0 := by omega
        obtain rfl := cnt_nil hn0
        simp only [Tms.cnt] at hcnt
        obtain ⟨e2, -⟩ := HH.out
        obtain rfl : k = n := by omega
        go_wp2
        go_ret
        exact ⟨rfl, by repeat (first | exact Ext.refl _ | assumption | refine Ext.alloc ?_ _ | refine Ext.drew ?_ | refine Ext.drewN ?_ _ | refine Ext.trans ?_ (by assumption))⟩
end Go.Proofs.Ytgbmeefcnjdjbaa
