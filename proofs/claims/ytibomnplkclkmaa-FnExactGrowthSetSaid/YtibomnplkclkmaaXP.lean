/- Pairs of numbers: laws' marks, what is held, what is equal. -/
import Derived.Test.YtibomnplkclkmaaTy
import Derived.Test.YtibomnplkclkmaaPlP
import Derived.Test.YtibomnplkclkmaaPlF
import Derived.WalkKit
import Derived.Deep.OwnRows
import Derived.Deep.LoopGhost
namespace Go.Proofs.Ytibomnplkclkmaa
open Go.Vc Go.RowKit
set_option maxRecDepth 100000
set_option linter.unusedSimpArgs false
set_option linter.unusedVariables false

structure Row2 (w wr : World) (g : Nat) (el : TypeId) (cs : Array Value) (k : Int) (t : Nat) : Prop where
  blk : ∃ cs' : Array Value, wr.heap[g]? = some (.cells cs' el (0, 0)) ∧ cs'.size = cs.size ∧ ∀ q : Nat, q < cs.size → cs'[q]? = if q < t then some (.int .i64 (k + q)) else cs[q]?
  oth : ∀ b, b ≠ g → wr.heap[b]? = w.heap[b]?
  size : wr.heap.size = w.heap.size
  os : wr.os = w.os
  tape : wr.tape = w.tape
  output : wr.output = w.output
  drawn : wr.drawn = w.drawn
theorem markPW (g cap n : Nat) (el : TypeId) (cs : Array Value) (k : Int) (w : World) (hg : w.heap[g]? = some (.cells cs el (0, 0))) (hn : 2 * n ≤ cs.size) (hk0 : 0 ≤ k) (hk : k + 2 * n ≤ 1000000000) :
    Calls Try.prog 38 #[.slice (some ⟨g, 0, none⟩) n cap, .int .i64 k] w fun e w' => e = .returned (.int .i64 (k + 2 * n)) ∧ Row2 w w' g el cs k (2 * n) := by
  go_enter Try.func38, Try.ntmps38
  go_wp2
  go_loopg [1, 5] n (fun m kk ii wr => ∃ i : Nat, m = n - i ∧ i ≤ n ∧ ii = .int .i64 i ∧ kk = .int .i64 (k + 2 * i) ∧ Row2 w wr g el cs k (2 * i))
  case atStart => exact ⟨0, rfl, Nat.zero_le _, rfl, by simp, ⟨⟨cs, hg, rfl, fun q _ => by simp⟩, fun _ _ => rfl, rfl, rfl, rfl, rfl, rfl⟩⟩
  case round =>
    obtain ⟨i, rfl, hi, rfl, rfl, hR⟩ := hrel
    go_wp2
    · have hlt : i < n := by assumption
      go_loopg [1, 6] 2 (fun m kk jj wr => ∃ j : Nat, m = 2 - j ∧ j ≤ 2 ∧ jj = .int .i64 j ∧ kk = .int .i64 (k + 2 * i + j) ∧ Row2 w wr g el cs k (2 * i + j))
      case atStart => exact ⟨0, rfl, Nat.zero_le _, rfl, by simp, hR⟩
      case round =>
        obtain ⟨j, rfl, hj, rfl, rfl, hR2⟩ := hrel
        obtain ⟨cs', hb, hsz, hv⟩ := hR2.blk
        rcases Nat.lt_or_ge j 2 with h2 | h2
        · have hin : i * 2 + j < cs'.size := by omega
          have hcell : wr.cell? ⟨g, i * 2 + j, none⟩ = some cs'[i * 2 + j] := by
            show (match wr.heap[g]? with | some (.cells c _ _) => if (none : Option _).isSome then none else c[i * 2 + j]? | _ => none) = _
            rw [hb]; exact Array.getElem?_eq_getElem hin
          have hfro : wr.frozen? ⟨g, i * 2 + j, none⟩ = false := by
            simp [World.frozen?, hb]
          go_wp2
          go_roundg (2 - (j + 1))
          case measure => omega
          case rel =>
            refine ⟨j + 1, rfl, by omega, rfl, ?_, ⟨⟨cs'.setIfInBounds (i * 2 + j) (.int .i64 (k + 2 * i + j)), ?_, by simp [hsz], fun q hq => ?_⟩, fun b hb' => ?_, ?_, hR2.os, hR2.tape, hR2.output, hR2.drawn⟩⟩
            · exact congrArg (Value.int .i64) (by omega)
            · simp [World.setCell, Array.getElem?_modify, hb]
            · rw [Array.getElem?_setIfInBounds]
              by_cases e : i * 2 + j = q
              · subst e
                rw [if_pos rfl, if_pos hin, if_pos (by omega)]
                exact congrArg (fun z => some (Value.int .i64 z)) (by omega)
              · rw [if_neg e, hv q hq]
                by_cases e2 : q < 2 * i + j
                · rw [if_pos e2, if_pos (by omega)]
                · rw [if_neg e2, if_neg (by omega)]
            · rw [Below.heap_setCell _ _ _ _ hb']; exact hR2.oth b hb'
            · have : (wr.setCell ⟨g, i * 2 + j, none⟩ (.int .i64 (k + 2 * i + j))).heap.size = wr.heap.size := by simp [World.setCell]
              exact this.trans hR2.size
        · obtain rfl : j = 2 := by omega
          go_wp2
          go_roundg (n - (i + 1))
          case measure => omega
          case rel =>
            refine ⟨i + 1, rfl, by omega, rfl, ?_, by simpa [show 2 * (i + 1) = 2 * i + 2 by omega] using hR2⟩
            exact congrArg (Value.int .i64) (by omega)
    · obtain rfl : i = n := by omega
      go_ret
      exact ⟨rfl, hR⟩
theorem markPW0 (a : Option Addr) (cap : Nat) (k : Int) (w : World) :
    Calls Try.prog 38 #[.slice a 0 cap, .int .i64 k] w fun e w' => e = .returned (.int .i64 k) ∧ w' = w := by
  go_enter Try.func38, Try.ntmps38
  go_wp2
  go_loopg [1, 5] 0 (fun m kk ii wr => ii = .int .i64 0 ∧ kk = .int .i64 k ∧ wr = w)
  case atStart => exact ⟨rfl, rfl, rfl⟩
  case round =>
    obtain ⟨rfl, rfl, rfl⟩ := hrel
    go_wp2
    go_ret
    exact ⟨rfl, rfl⟩

def upP (k : Int) (n : Nat) : List (Int × Int) := tab n fun i => (k + 2 * i, k + 2 * i + 1)
theorem upP_len (k : Int) (n : Nat) : (upP k n).length = n := tab_len _ _
def g_markP : List AV → Heap → Prop × AV × Heap
  | [.sl 0, .int .i64 k], [(0, .arr (.pairs xs))] => (xs.length ≤ 1000000 ∧ 0 ≤ k ∧ k ≤ 1000000, .int .i64 (k + 2 * xs.length), [(0, .arr (.pairs (upP k xs.length)))])
  | _, _ => (False, .undef, [])
theorem g_markP_eq (xs : List (Int × Int)) (k : Int) : g_markP [.sl 0, .int .i64 k] [(0, .arr (.pairs xs))] = (xs.length ≤ 1000000 ∧ 0 ≤ k ∧ k ≤ 1000000, .int .i64 (k + 2 * xs.length), [(0, .arr (.pairs (upP k xs.length)))]) := (rfl)
theorem markP_ok (xs : List (Int × Int)) (k : Int) (hp : xs.length ≤ 1000000 ∧ 0 ≤ k ∧ k ≤ 1000000) : SpecM Try.prog 38 [.sl 0, .int .i64 k] [(0, .arr (.pairs xs))] 1 (.int .i64 (k + 2 * xs.length)) [(0, .arr (.pairs (upP k xs.length)))] := by
  obtain ⟨hx, hk0, hk1⟩ := hp
  refine ⟨fun r k1 k2 h1 h2 => ?_, ?_⟩
  · have hr : r = 0 := by
      unfold Heap.look at h1
      split at h1
      · rename_i e; exact e.symm
      · cases h1
    subst hr
    have e1 : Heap.look [((0 : Nat), Blk.arr (AV.pairs xs))] 0 = some (.arr (.pairs xs)) := rfl
    have e2 : Heap.look [((0 : Nat), Blk.arr (AV.pairs (upP k xs.length)))] 0 = some (.arr (.pairs (upP k xs.length))) := rfl
    rw [e1] at h1; rw [e2] at h2; cases h1; cases h2
    exact ss_pairs (upP_len _ _).symm
  intro own S ρ w cargs hown hrel hsz hargs
  obtain ⟨v0, v1, rfl⟩ : ∃ v0 v1, cargs = #[v0, v1] := by
    obtain ⟨l⟩ := cargs
    match l, hsz with
    | [a, b], _ => exact ⟨a, b, rfl⟩
  have hv0 := hargs 0 _ v0 rfl rfl
  have hv1 := hargs 1 _ v1 rfl rfl
  have e1 : v1 = .int .i64 k := hv1.int_inv
  subst e1
  have hlook : Heap.look [((0 : Nat), Blk.arr (AV.pairs xs))] 0 = some (.arr (.pairs xs)) := rfl
  have hlook2 : Heap.look [((0 : Nat), Blk.arr (AV.pairs (upP k xs.length)))] 0 = some (.arr (.pairs (upP k xs.length))) := rfl
  have hlk : ∀ {z : List (Int × Int)} (r) (k' : Blk), Heap.look [((0 : Nat), Blk.arr (AV.pairs z))] r = some k' → r = 0 ∧ k' = .arr (.pairs z) := fun r k' h => by
    unfold Heap.look at h
    split at h
    · rename_i e; cases h; exact ⟨e.symm, rfl⟩
    · cases h
  have hft : ∀ {z : List (Int × Int)} r j, foot ρ (Heap.look [((0 : Nat), Blk.arr (AV.pairs z))]) r j → (r = 0 ∧ j = 0) ∧ ρ.cap 0 ≠ 0 := fun {z} r j h => by
    unfold foot at h
    cases hr : Heap.look [((0 : Nat), Blk.arr (AV.pairs z))] r with
    | none => rw [hr] at h; exact h.elim
    | some k' =>
      obtain ⟨rfl, rfl⟩ := hlk r k' hr
      rw [hr] at h
      exact ⟨⟨rfl, h.1⟩, h.2⟩
  obtain ⟨v, zs, m, a, e1, e2, e3, e4⟩ := hv0.sl_inv
  rw [hlook] at e2; cases e2
  simp only [AV.elems, Option.some.injEq, Prod.mk.injEq] at e3
  obtain ⟨rfl, rfl⟩ := e3
  subst e1
  obtain ⟨zs, m, c, he, hc, hcs, hcap, hcm, harr⟩ := hrel.blk 0 _ hlook
  simp only [AV.elems, Option.some.injEq, Prod.mk.injEq] at he
  obtain ⟨rfl, rfl⟩ := he
  rw [List.length_map] at hcap ⊢
  have fin : ∀ (w' : World) (c' : Array Value), (ρ.cap 0 ≠ 0 → OwnCells w' (ρ.blk 0 0) c') → c'.size = c.size → (∀ i, i < xs.length → c'[i * 2]? = some (.int .i64 (k + 2 * i)) ∧ c'[i * 2 + 1]? = some (.int .i64 (k + 2 * i + 1))) →
      (∀ b, (ρ.cap 0 ≠ 0 → b ≠ ρ.blk 0 0) → w'.heap[b]? = w.heap[b]?) → w'.os = w.os → w'.tape = w.tape → w'.output = w.output → w'.heap.size = w.heap.size → w'.drawn = w.drawn →
      ∃ cv S' ρ', Ending.returned (.int .i64 (k + 2 * (xs.length : Int))) = Ending.returned cv ∧ Rel own S' ρ' (Heap.look [((0 : Nat), Blk.arr (AV.pairs (upP k xs.length)))]) w' ∧ S.le S' ∧ (∀ b, S b = none → S' b ≠ none → own b) ∧
        Kept own w w' ∧ V S' ρ' (Heap.look [((0 : Nat), Blk.arr (AV.pairs (upP k xs.length)))]) (.int .i64 (k + 2 * (xs.length : Int))) cv ∧ ∀ r, r < 1 → Heap.look [((0 : Nat), Blk.arr (AV.pairs (upP k xs.length)))] r ≠ none → (∀ j, ρ'.blk r j = ρ.blk r j) ∧ ρ'.cap r = ρ.cap r ∧ ∀ i, ρ'.rcap r i = ρ.rcap r i := by
    intro w' c' hc' hcs' hv' hoth h1 h2 h3 h4 h5
    have hown0 : ρ.cap 0 ≠ 0 → own (ρ.blk 0 0) ∧ S (ρ.blk 0 0) = none := fun h => hrel.owned 0 0 (foot_arr hlook h)
    refine ⟨_, S, ρ, rfl, ⟨fun b c2 hb => ?_, hrel.amb, fun r k' hr => ?_, fun r j h => ?_, fun r j r' j' h h' _ => ?_⟩, fun _ _ h => h, fun b h1 h2 => absurd h1 h2, ⟨h1, h2, h3, by omega, fun b hlt hno => ?_, fun _ => by omega⟩, .pure _ _ (.int _ _), fun r _ _ => ⟨fun _ => rfl, rfl, fun _ => rfl⟩⟩
    · obtain ⟨el, fr, h⟩ := hrel.stab b c2 hb
      exact ⟨el, fr, by rw [hoth b (fun hh e => by rw [e, (hown0 hh).2] at hb; cases hb)]; exact h⟩
    · obtain ⟨rfl, rfl⟩ := hlk r k' hr
      refine ⟨(upP k xs.length).map .pair, 2, c', rfl, hc', by rw [hcs', hcs], by rw [List.length_map, upP_len]; exact hcap, fun x hx => ?_, fun i x j y hx hy => ?_⟩
      · obtain ⟨y, _, rfl⟩ := List.mem_map.1 hx; rfl
      · have hi : i < xs.length := by have := (List.getElem?_eq_some_iff.1 hx).1; rwa [List.length_map, upP_len] at this
        have ex : x = .pair (k + 2 * i, k + 2 * i + 1) := by
          rw [List.getElem?_map, ix_some (upP k xs.length) (by rw [upP_len]; exact hi)] at hx
          have e : ix (upP k xs.length) (i : Int) = (k + 2 * i, k + 2 * i + 1) := tab_ix hi
          rw [e] at hx
          exact (Option.some.inj hx).symm
        subst ex
        obtain ⟨g1, g2⟩ := hv' i hi
        rcases j with _ | _ | j
        · have : y = .int .i64 (k + 2 * i) := (Option.some.inj hy).symm
          subst this
          exact ⟨_, g1, .int _ _⟩
        · have : y = .int .i64 (k + 2 * i + 1) := (Option.some.inj hy).symm
          subst this
          exact ⟨_, g2, .int _ _⟩
        · cases hy
    · obtain ⟨⟨rfl, rfl⟩, h0⟩ := hft r j h
      exact hown0 h0
    · obtain ⟨⟨rfl, rfl⟩, _⟩ := hft r j h
      obtain ⟨⟨rfl, rfl⟩, _⟩ := hft r' j' h'
      exact ⟨rfl, rfl⟩
    · exact hoth b (fun hh e => hno (e ▸ (hown0 hh).1))
  by_cases h0 : xs.length = 0
  · rw [h0]
    refine (markPW0 a (ρ.cap 0) k w).mono ?_
    rintro e w' ⟨rfl, rfl⟩
    have := fin w' c hc rfl (fun i hi => by omega) (fun _ _ => rfl) rfl rfl rfl rfl rfl
    rw [h0] at this
    simpa using this
  · have hcap0 : ρ.cap 0 ≠ 0 := by omega
    obtain ⟨el, hcell⟩ := hc hcap0
    rw [e4 hcap0]
    refine (markPW (ρ.blk 0 0) (ρ.cap 0) xs.length el c k w hcell (by omega) hk0 (by omega)).mono ?_
    rintro e w' ⟨rfl, hR⟩
    obtain ⟨c', g1, g2, g3⟩ := hR.blk
    refine fin w' c' (fun _ => ⟨el, g1⟩) g2 (fun i hi => ⟨?_, ?_⟩) (fun b hb => hR.oth b (hb hcap0)) hR.os hR.tape hR.output hR.size hR.drawn
    · rw [g3 _ (by omega), if_pos (by omega)]
      exact congrArg (fun z => some (Value.int .i64 z)) (by omega)
    · rw [g3 _ (by omega), if_pos (by omega)]
      exact congrArg (fun z => some (Value.int .i64 z)) (by omega)
def t_markP : Table := [(38, mutC 1 g_markP)]
theorem t_markP_ok : TabOK Try.prog t_markP := .cons Try.func38 (by kernel_rfl) (.mut (by intro args pre _ hp; unfold g_markP at hp ⊢; split at hp <;> first | exact hp.elim | exact markP_ok _ _ hp)) (.nil _)
attribute [go_sem] g_markP_eq t_markP
end Go.Proofs.Ytibomnplkclkmaa
