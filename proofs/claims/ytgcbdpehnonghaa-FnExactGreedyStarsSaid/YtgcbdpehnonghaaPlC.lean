/- Plain facts on least ways: no program in sight. -/
import Derived.Test.YtgcbdpehnonghaaPlS
namespace Go.Vc
set_option linter.unusedSimpArgs false
set_option linter.unusedVariables false

def metP (d : List (List Int)) (i j a b : Nat) : Prop := ix (ix d i) a <= ix (ix d i) b + ix (ix d j) b + ix (ix d j) a
instance (d : List (List Int)) (i j a b : Nat) : Decidable (metP d i j a b) := inferInstanceAs (Decidable (_ <= _))
def metric (d : List (List Int)) (n : Nat) : Bool := decide (∀ i, i < d.length -> ∀ j, j < d.length -> ∀ a, a < n -> ∀ b, b < n -> metP d i j a b)
theorem row_of {o : List Int} {d : List (List Int)} (h : FieldOK o d) {k : Nat} (hk : k < d.length) : (ix d (k : Int)).length = o.length /\ ∀ a : Nat, a < o.length -> 0 <= ix (ix d (k : Int)) (a : Int) /\ ix (ix d (k : Int)) (a : Int) <= 99 := by
  have hm := ix_mem d hk
  have hl := h.len _ hm
  exact ⟨hl, fun a ha => h.d99 _ hm _ (ix_mem _ (by omega))⟩

def ent (d : List (List Int)) (i a : Nat) : Int := ix (ix d (i : Int)) (a : Int)
structure Sh (m n : Nat) (d : List (List Int)) : Prop where
  len : d.length = m
  row : ∀ i : Nat, i < m -> (ix d (i : Int)).length = n
  nn : ∀ i a : Nat, i < m -> a < n -> 0 <= ent d i a /\ ent d i a <= 99
def upd (d : List (List Int)) (i a : Nat) (v : Int) : List (List Int) := d.set i ((ix d (i : Int)).set a v)
theorem ent_upd {m n : Nat} {d : List (List Int)} (h : Sh m n d) {i a : Nat} (hi : i < m) (ha : a < n) (v : Int) (p q : Nat) : ent (upd d i a v) p q = if p = i /\ q = a then v else ent d p q := by
  unfold ent upd
  rw [ix_set _ _ (by rw [h.len]; exact hi)]
  by_cases e : p = i
  · subst e
    rw [if_pos rfl, ix_set _ _ (by rw [h.row p hi]; exact ha)]
    by_cases e2 : q = a
    · subst e2; simp
    · rw [if_neg e2, if_neg (fun h => e2 h.2)]
  · rw [if_neg e, if_neg (fun h => e h.1)]
theorem sh_upd {m n : Nat} {d : List (List Int)} (h : Sh m n d) {i a : Nat} (hi : i < m) (ha : a < n) {v : Int} (hv : 0 <= v /\ v <= 99) : Sh m n (upd d i a v) := by
  refine ⟨by simp [upd, h.len], fun p hp => ?_, fun p q hp hq => ?_⟩
  · unfold upd
    rw [ix_set _ _ (by rw [h.len]; exact hi)]
    split
    · rw [List.length_set]; exact h.row i hi
    · exact h.row p hp
  · rw [ent_upd h hi ha]
    split
    · exact hv
    · exact h.nn p q hp hq
theorem sh_ext {m n : Nat} {d e : List (List Int)} (hd : Sh m n d) (he : Sh m n e) (h : ∀ i a, i < m -> a < n -> ent d i a = ent e i a) : d = e := by
  refine ix_ext (by rw [hd.len, he.len]) (fun i hi => ?_)
  rw [hd.len] at hi
  refine ix_ext (by rw [hd.row i hi, he.row i hi]) (fun a ha => ?_)
  rw [hd.row i hi] at ha
  exact h i a hi ha
def LeM (m n : Nat) (e d : List (List Int)) : Prop := ∀ i a, i < m -> a < n -> ent e i a <= ent d i a
def MetM (m n : Nat) (d : List (List Int)) : Prop := ∀ i j a b, i < m -> j < m -> a < n -> b < n -> ent d i a <= ent d i b + ent d j b + ent d j a
/-- The lengths are the greatest ones that are metric and at most the given ones. -/
structure Closes (m n : Nat) (d0 d : List (List Int)) : Prop where
  sh : Sh m n d
  le : LeM m n d d0
  up : ∀ e, MetM m n e -> LeM m n e d0 -> LeM m n e d
theorem closes_refl {m n : Nat} {d : List (List Int)} (h : Sh m n d) : Closes m n d d := ⟨h, fun _ _ _ _ => Int.le_refl _, fun _ _ h => h⟩
theorem closes_unique {m n : Nat} {d0 d e : List (List Int)} (hd : Closes m n d0 d) (he : Closes m n d0 e) (md : MetM m n d) (me : MetM m n e) : d = e :=
  sh_ext hd.sh he.sh (fun i a hi ha => Int.le_antisymm (he.up d md hd.le i a hi ha) (hd.up e me he.le i a hi ha))
def viaV (d : List (List Int)) (i j a b : Nat) : Int := ent d i b + ent d j b + ent d j a
theorem closes_upd {m n : Nat} {d0 d : List (List Int)} (h : Closes m n d0 d) {i j a b : Nat} (hi : i < m) (hj : j < m) (ha : a < n) (hb : b < n) (hv : viaV d i j a b <= ent d i a) : Closes m n d0 (upd d i a (viaV d i j a b)) := by
  have n1 := h.sh.nn i b hi hb
  have n2 := h.sh.nn j b hj hb
  have n3 := h.sh.nn j a hj ha
  have n4 := h.sh.nn i a hi ha
  have hvv : viaV d i j a b = ent d i b + ent d j b + ent d j a := rfl
  refine ⟨sh_upd h.sh hi ha (by omega), fun p q hp hq => ?_, fun e me le p q hp hq => ?_⟩
  · rw [ent_upd h.sh hi ha]
    split
    · rename_i e; obtain ⟨rfl, rfl⟩ := e; exact Int.le_trans hv (h.le p q hp hq)
    · exact h.le p q hp hq
  · rw [ent_upd h.sh hi ha]
    have u := h.up e me le
    split
    · rename_i e'; obtain ⟨rfl, rfl⟩ := e'
      have h1 := me p j q b hp hj hq hb
      have h2 := u p b hp hb
      have h3 := u j b hj hb
      have h4 := u j q hj hq
      omega
    · exact u p q hp hq
theorem upd_same {m n : Nat} {d : List (List Int)} (h : Sh m n d) {i a : Nat} (hi : i < m) (ha : a < n) : upd d i a (ent d i a) = d := by
  refine sh_ext (sh_upd h hi ha (h.nn i a hi ha)) h (fun p q hp hq => ?_)
  rw [ent_upd h hi ha]
  split
  · rename_i e; rw [e.1, e.2]
  · rfl
def msum (m n : Nat) (d : List (List Int)) : Int := sumN (fun i => sumN (fun a => ent d i a) n) m
theorem sumN_le {f g : Nat -> Int} : ∀ {n : Nat}, (∀ i, i < n -> f i <= g i) -> sumN f n <= sumN g n
  | 0, _ => Int.le_refl _
  | n + 1, h => by
    have := sumN_le (n := n) (fun i hi => h i (by omega))
    have := h n (by omega)
    simp only [sumN]; omega
theorem sumN_lt {f g : Nat -> Int} {k : Nat} : ∀ {n : Nat}, (∀ i, i < n -> f i <= g i) -> k < n -> f k < g k -> sumN f n < sumN g n
  | 0, _, hk, _ => by omega
  | n + 1, h, hk, hl => by
    simp only [sumN]
    by_cases e : k = n
    · subst e
      have := sumN_le (n := k) (fun i hi => h i (by omega))
      omega
    · have := sumN_lt (n := n) (fun i hi => h i (by omega)) (by omega) hl
      have := h n (by omega)
      omega
theorem msum_upd {m n : Nat} {d : List (List Int)} (h : Sh m n d) {i a : Nat} (hi : i < m) (ha : a < n) {v : Int} (hv : v < ent d i a) : msum m n (upd d i a v) < msum m n d := by
  unfold msum
  have key : ∀ p, p < m -> ∀ q, q < n -> ent (upd d i a v) p q <= ent d p q := fun p hp q hq => by
    rw [ent_upd h hi ha]
    split
    · rename_i e; rw [e.1, e.2]; omega
    · exact Int.le_refl _
  refine sumN_lt (k := i) (fun p hp => sumN_le (fun q hq => key p hp q hq)) hi ?_
  refine sumN_lt (k := a) (fun q hq => key i hi q hq) ha ?_
  rw [ent_upd h hi ha, if_pos ⟨rfl, rfl⟩]; exact hv
theorem msum_nn {m n : Nat} {d : List (List Int)} (h : Sh m n d) : 0 <= msum m n d := by
  have : sumN (fun _ => (0 : Int)) m <= msum m n d := sumN_le (fun i hi => by
    have : sumN (fun _ => (0 : Int)) n <= sumN (fun a => ent d i a) n := sumN_le (fun a ha => (h.nn i a hi ha).1)
    rw [sumN_zero (fun _ _ => rfl)] at this
    exact this)
  rw [sumN_zero (fun _ _ => rfl)] at this
  exact this
theorem msum_le {m n : Nat} {d : List (List Int)} (h : Sh m n d) (hm : m <= 7) (hn : n <= 7) : msum m n d <= 4851 := by
  have h1 := sumN_bd (f := fun i => sumN (fun a => ent d i a) n) (lo := 0) (hi := 693) (n := m) (fun i hi => by
    have := sumN_bd (f := fun a => ent d i a) (lo := 0) (hi := 99) (n := n) (fun a ha => h.nn i a hi ha)
    omega)
  unfold msum; omega
def relax (d : List (List Int)) (q : Nat × Nat × Nat × Nat) : List (List Int) := if viaV d q.1 q.2.1 q.2.2.1 q.2.2.2 < ent d q.1 q.2.2.1 then upd d q.1 q.2.2.1 (viaV d q.1 q.2.1 q.2.2.1 q.2.2.2) else d
theorem relax_fold {m n : Nat} {d0 : List (List Int)} : ∀ (Q : List (Nat × Nat × Nat × Nat)) (d : List (List Int)), (∀ q ∈ Q, q.1 < m /\ q.2.1 < m /\ q.2.2.1 < n /\ q.2.2.2 < n) -> Closes m n d0 d ->
    Closes m n d0 (Q.foldl relax d) /\ ((Q.foldl relax d = d /\ ∀ q ∈ Q, ent d q.1 q.2.2.1 <= viaV d q.1 q.2.1 q.2.2.1 q.2.2.2) \/ msum m n (Q.foldl relax d) < msum m n d)
  | [], d, _, h => ⟨h, .inl ⟨rfl, fun q hq => by cases hq⟩⟩
  | q :: Q, d, hQ, h => by
    obtain ⟨h1, h2, h3, h4⟩ := hQ q List.mem_cons_self
    have hQ' := fun q' hq' => hQ q' (List.mem_cons_of_mem _ hq')
    rw [List.foldl_cons]
    by_cases e : viaV d q.1 q.2.1 q.2.2.1 q.2.2.2 < ent d q.1 q.2.2.1
    · have hr : relax d q = upd d q.1 q.2.2.1 (viaV d q.1 q.2.1 q.2.2.1 q.2.2.2) := by unfold relax; rw [if_pos e]
      rw [hr]
      have hc := closes_upd h h1 h2 h3 h4 (Int.le_of_lt e)
      have hs := msum_upd h.sh h1 h3 e
      obtain ⟨g1, g2⟩ := relax_fold Q _ hQ' hc
      refine ⟨g1, .inr ?_⟩
      rcases g2 with ⟨g2, _⟩ | g2
      · rw [g2]; exact hs
      · omega
    · have hr : relax d q = d := by unfold relax; rw [if_neg e]
      rw [hr]
      obtain ⟨g1, g2⟩ := relax_fold Q d hQ' h
      refine ⟨g1, ?_⟩
      rcases g2 with ⟨g2, g3⟩ | g2
      · refine .inl ⟨g2, fun q' hq' => ?_⟩
        rcases List.mem_cons.1 hq' with rfl | hq'
        · omega
        · exact g3 q' hq'
      · exact .inr g2
def quads (m n : Nat) : List (Nat × Nat × Nat × Nat) := (List.range m).flatMap fun i => (List.range m).flatMap fun j => (List.range n).flatMap fun a => (List.range n).map fun b => (i, j, a, b)
theorem mem_quads {m n : Nat} {q : Nat × Nat × Nat × Nat} : q ∈ quads m n ↔ q.1 < m /\ q.2.1 < m /\ q.2.2.1 < n /\ q.2.2.2 < n := by
  obtain ⟨i, j, a, b⟩ := q
  simp only [quads, List.mem_flatMap, List.mem_map, List.mem_range, Prod.mk.injEq]
  exact ⟨fun ⟨_, h1, _, h2, _, h3, _, h4, e1, e2, e3, e4⟩ => by subst e1; subst e2; subst e3; subst e4; exact ⟨h1, h2, h3, h4⟩, fun ⟨h1, h2, h3, h4⟩ => ⟨_, h1, _, h2, _, h3, _, h4, rfl, rfl, rfl, rfl⟩⟩
def iterR (m n : Nat) (d : List (List Int)) : Nat -> List (List Int)
  | 0 => d
  | k + 1 => (quads m n).foldl relax (iterR m n d k)
theorem iterR_ok {m n : Nat} {d : List (List Int)} (h : Sh m n d) : ∀ k, Closes m n d (iterR m n d k)
  | 0 => closes_refl h
  | k + 1 => (relax_fold (quads m n) _ (fun q hq => mem_quads.1 hq) (iterR_ok h k)).1
/-- The least lengths of alternating ways. -/
def closeD (m n : Nat) (d : List (List Int)) : List (List Int) :=
  match (List.range 5000).find? (fun k => metric (iterR m n d k) n) with
  | some k => iterR m n d k
  | none => d
theorem metric_iff {m n : Nat} {d : List (List Int)} (h : d.length = m) : metric d n = true ↔ MetM m n d := by
  unfold metric
  rw [decide_eq_true_eq, h]
  exact ⟨fun h i j a b hi hj ha hb => h i hi j hj a ha b hb, fun h i hi j hj a ha b hb => h i j a b hi hj ha hb⟩
theorem closeD_ok {m n : Nat} {d : List (List Int)} (h : Sh m n d) (hm : m <= 7) (hn : n <= 7) : Closes m n d (closeD m n d) /\ MetM m n (closeD m n d) := by
  unfold closeD
  split
  · rename_i k hk
    have hc := iterR_ok h k
    have h2 := List.find?_some hk
    exact ⟨hc, (metric_iff hc.sh.len).1 h2⟩
  · rename_i hk
    exfalso
    rw [List.find?_eq_none] at hk
    obtain ⟨K, hK⟩ : ∃ K : Nat, K = 5000 := ⟨5000, rfl⟩
    have key : ∀ k, k <= K -> msum m n (iterR m n d k) + k <= msum m n d := by
      intro k
      induction k with
      | zero => intro _; simp [iterR]
      | succ k ih =>
        intro hk5
        have h1 := ih (by omega)
        have hc := iterR_ok h k
        have h2 := hk k (List.mem_range.2 (by omega))
        have h3 := (relax_fold (quads m n) _ (fun q hq => mem_quads.1 hq) hc).2
        rcases h3 with ⟨_, h3⟩ | h3
        · exact (h2 ((metric_iff hc.sh.len).2 (fun i j a b hi hj ha hb => h3 (i, j, a, b) (mem_quads.2 ⟨hi, hj, ha, hb⟩)))).elim
        · have e : iterR m n d (k + 1) = (quads m n).foldl relax (iterR m n d k) := rfl
          rw [e]; omega
    have h1 := key K (Nat.le_refl _)
    have h2 := msum_nn (iterR_ok h K).sh
    have h3 := msum_le h hm hn
    omega
theorem closeD_eq {m n : Nat} {d0 d : List (List Int)} (h : Sh m n d0) (hm : m <= 7) (hn : n <= 7) (hd : Closes m n d0 d) (md : MetM m n d) : closeD m n d0 = d :=
  closes_unique (closeD_ok h hm hn).1 hd (closeD_ok h hm hn).2 md
theorem FieldOK.sh {o : List Int} {d : List (List Int)} (h : FieldOK o d) : Sh d.length o.length d :=
  ⟨rfl, fun i hi => h.len _ (ix_mem d hi), fun i a hi ha => h.d_ix (by omega) (by omega) (by omega) (by omega)⟩
theorem Sh.field {o : List Int} {d0 d : List (List Int)} (hf : FieldOK o d0) (h : Sh d0.length o.length d) : FieldOK o d := by
  have hl := h.len
  refine ⟨hf.n1, hf.n7, hf.o99, by rw [hl]; exact hf.m7, fun r hr => ?_, fun r hr x hx => ?_⟩
  · obtain ⟨k, hk, rfl⟩ := List.mem_iff_getElem.1 hr
    have e := ix_some d hk
    rw [List.getElem?_eq_getElem hk] at e
    rw [Option.some.inj e]; exact h.row k (by omega)
  · obtain ⟨k, hk, rfl⟩ := List.mem_iff_getElem.1 hr
    have e := ix_some d hk
    rw [List.getElem?_eq_getElem hk] at e
    rw [Option.some.inj e] at hx
    obtain ⟨q, hq, rfl⟩ := mem_ix hx
    exact h.nn k q (by omega) (by rw [h.row k (by omega)] at hq; exact hq)
/-! ### One pass over all quadruples -/
def done4 (i j a b i' j' a' b' : Nat) : Prop := i' < i \/ (i' = i /\ (j' < j \/ (j' = j /\ (a' < a \/ (a' = a /\ b' < b)))))
def ProgB (m n : Nat) (D d : List (List Int)) (ch : Bool) (i j a b : Nat) : Prop :=
  (ch = false /\ d = D /\ ∀ i' j' a' b', i' < m -> j' < m -> a' < n -> b' < n -> done4 i j a b i' j' a' b' -> ent D i' a' <= viaV D i' j' a' b') \/ (ch = true /\ msum m n d < msum m n D)
theorem progB_start (m n : Nat) (D : List (List Int)) : ProgB m n D D false 0 0 0 0 := .inl ⟨rfl, rfl, fun i' j' a' b' _ _ _ _ h => by unfold done4 at h; omega⟩
theorem ProgB.mono {m n : Nat} {D d : List (List Int)} {ch : Bool} {i j a b i2 j2 a2 b2 : Nat} (h : ProgB m n D d ch i j a b)
    (hm : ∀ i' j' a' b', i' < m -> j' < m -> a' < n -> b' < n -> done4 i2 j2 a2 b2 i' j' a' b' -> done4 i j a b i' j' a' b') : ProgB m n D d ch i2 j2 a2 b2 := by
  rcases h with ⟨h1, h2, h3⟩ | h
  · exact .inl ⟨h1, h2, fun i' j' a' b' g1 g2 g3 g4 g5 => h3 i' j' a' b' g1 g2 g3 g4 (hm i' j' a' b' g1 g2 g3 g4 g5)⟩
  · exact .inr h
theorem ProgB.b {m n : Nat} {D d : List (List Int)} {ch : Bool} {i j a b : Nat} (h : ProgB m n D d ch i j a b) (hb : n <= b) : ProgB m n D d ch i j (a + 1) 0 := h.mono (fun i' j' a' b' _ _ _ _ g => by unfold done4 at *; omega)
theorem ProgB.a {m n : Nat} {D d : List (List Int)} {ch : Bool} {i j a : Nat} (h : ProgB m n D d ch i j a 0) (ha : n <= a) : ProgB m n D d ch i (j + 1) 0 0 := h.mono (fun i' j' a' b' _ _ _ _ g => by unfold done4 at *; omega)
theorem ProgB.j {m n : Nat} {D d : List (List Int)} {ch : Bool} {i j : Nat} (h : ProgB m n D d ch i j 0 0) (hj : m <= j) : ProgB m n D d ch (i + 1) 0 0 0 := h.mono (fun i' j' a' b' _ _ _ _ g => by unfold done4 at *; omega)
theorem ProgB.no {m n : Nat} {D d : List (List Int)} {ch : Bool} {i j a b : Nat} (h : ProgB m n D d ch i j a b) (hv : ent d i a <= viaV d i j a b) : ProgB m n D d ch i j a (b + 1) := by
  rcases h with ⟨h1, h2, h3⟩ | h
  · subst h2
    refine .inl ⟨h1, rfl, fun i' j' a' b' g1 g2 g3 g4 g5 => ?_⟩
    by_cases e : i' = i /\ j' = j /\ a' = a /\ b' = b
    · obtain ⟨rfl, rfl, rfl, rfl⟩ := e; exact hv
    · exact h3 i' j' a' b' g1 g2 g3 g4 (by unfold done4 at *; omega)
  · exact .inr h
theorem ProgB.yes {m n : Nat} {D d : List (List Int)} {ch : Bool} {i j a b : Nat} (hd : Sh m n d) (hi : i < m) (ha : a < n) (h : ProgB m n D d ch i j a b) {v : Int} (hv : v < ent d i a) {i2 j2 a2 b2 : Nat} : ProgB m n D (upd d i a v) true i2 j2 a2 b2 := by
  have := msum_upd hd hi ha hv
  rcases h with ⟨h1, h2, h3⟩ | h
  · subst h2; exact .inr ⟨rfl, this⟩
  · exact .inr ⟨rfl, by omega⟩
theorem ProgB.end {m n : Nat} {D d : List (List Int)} {ch : Bool} {i : Nat} (h : ProgB m n D d ch i 0 0 0) (hi : m <= i) : (ch = false /\ d = D /\ MetM m n d) \/ (ch = true /\ msum m n d < msum m n D) := by
  rcases h with ⟨h1, h2, h3⟩ | h
  · subst h2; exact .inl ⟨h1, rfl, fun i' j' a' b' g1 g2 g3 g4 => h3 i' j' a' b' g1 g2 g3 g4 (.inl (by omega))⟩
  · exact .inr h
theorem viaV_bd {m n : Nat} {d : List (List Int)} (h : Sh m n d) {i j a b : Nat} (hi : i < m) (hj : j < m) (ha : a < n) (hb : b < n) : (0 <= ent d i b /\ ent d i b <= 99) /\ (0 <= ent d j b /\ ent d j b <= 99) /\ (0 <= ent d j a /\ ent d j a <= 99) /\ 0 <= ent d i a /\ ent d i a <= 99 :=
  ⟨h.nn i b hi hb, h.nn j b hj hb, h.nn j a hj ha, h.nn i a hi ha⟩
end Go.Vc
