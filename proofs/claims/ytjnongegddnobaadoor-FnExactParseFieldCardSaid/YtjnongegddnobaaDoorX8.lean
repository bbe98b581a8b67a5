/- Fields read from their texts: both packages say the same. -/
import Derived.Test.YtjnongegddnobaaDoorX7
import Derived.Test.YtjnongegddnobaaDoorPlF
namespace Go.Proofs.YtjnongegddnobaaDoor
open Go.Vc Go.RowKit
set_option maxRecDepth 100000
set_option maxHeartbeats 1600000
set_option linter.unusedSimpArgs false
set_option linter.unusedVariables false
def g_partsC : List AV -> Prop × AV × Heap
  | [.str s, .str t] => (1 <= t.size /\ s.size <= 1048576, .sl 0, [(0, .arr (.strs (partsB s t)))])
  | _ => (False, .undef, [])
theorem g_partsC_eq (s t : ByteArray) : g_partsC [.str s, .str t] = (1 <= t.size /\ s.size <= 1048576, .sl 0, [(0, .arr (.strs (partsB s t)))]) := (rfl)
theorem partsC_ok (s t : ByteArray) (hp : 1 <= t.size /\ s.size <= 1048576) : SpecOK Tryd.prog 43 [.str s, .str t] (.sl 0) [(0, .arr (.strs (partsB s t)))] := by
  intro S w cargs hS hsz hargs
  obtain ⟨v, u, rfl, h1, h2⟩ := args2 hsz hargs
  obtain rfl := sees_strv h1
  obtain rfl := sees_strv h2
  obtain ⟨hp1, hp2⟩ := hp
  obtain ⟨m, hm⟩ := maxLen0 hS
  refine (Tryd.strings_Split s t m w (by omega) hm hp1).mono ?_
  rintro e w' ⟨rfl, rfl⟩
  exact new_strs hS _ _ (partsB_len s t hp1) (Nat.succ_pos _) _
def t_partsC : Table := [(43, ownC g_partsC)]
theorem t_partsC_ok : TabOK Tryd.prog t_partsC := .cons Tryd.func43 (by kernel_rfl) (.own (by intro args hp; unfold g_partsC at hp ⊢; split at hp <;> first | exact hp.elim | exact ⟨partsC_ok _ _ hp, rfl⟩)) (.nil _)
attribute [go_sem] g_partsC_eq t_partsC
def g_rdNI : List AV -> Prop × AV × Heap
  | [.str s] => (s.size <= 1048576, .sl 0, [(0, .arr (.ints (rdN s)))])
  | _ => (False, .undef, [])
theorem g_rdNI_eq (s : ByteArray) : g_rdNI [.str s] = (s.size <= 1048576, .sl 0, [(0, .arr (.ints (rdN s)))]) := (rfl)
theorem rdNI_ok (s : ByteArray) (hp : s.size <= 1048576) : SpecOK Tryd.prog 57 [.str s] (.sl 0) [(0, .arr (.ints (rdN s)))] := by
  refine fun_ok (C := t_partsC ++ t_atoiC) (hint := hintX [8] [] 0 [] [] [] []) ((t_partsC_ok).append t_atoiC_ok) mixed Tryd.func57 rfl (by kernel_rfl) rfl ?_
  show codeA _ _ _ _ _ _ _ _
  simp only [go_sem, Tryd.results57]
  rw [beqL]
  refine partB_intro (fun h => ?_) (fun h => ?_)
  · unfold rdN; rw [if_pos (of_decide_eq_true h)]
  · have hz : (⟨#[32]⟩ : ByteArray).size = 1 := rfl
    obtain ⟨hl1, hl2⟩ := partsB_le s ⟨#[32]⟩ (by rw [hz]; omega)
    have hR : rdN s = (partsB s ⟨#[32]⟩).map atN := by unfold rdN; rw [if_neg (of_decide_eq_false h)]
    have hmem : ∀ i : Nat, i < (partsB s ⟨#[32]⟩).length -> (ix (partsB s ⟨#[32]⟩) (i : Int)).size <= 1048576 := fun i hi => by
      have := partsB_mem (ix_mem _ hi)
      omega
    rw [hR]
    generalize hp0 : partsB s ⟨#[32]⟩ = parts at *
    refine ⟨⟨by first | (rw [hz]; done) | omega | exact Nat.le_refl _, hp⟩, ?_⟩
    refine loop_intro (fun i : Nat => [(15, .int .i64 i), (14, .int .i64 parts.length), (13, .strs parts), (3, .sl 0)]) (fun i => [(0, .arr (.ints ((parts.take i).map atN)))]) 2 (fun i => i <= parts.length) (fun i => parts.length - i) 0 (Nat.zero_le _) (Nat.zero_le _) ?_ ?_
    · simp only [go_sem]
      repeat' (first | refine fork_intro (fun hb => ?_) (fun hb => ?_) | refine partB_intro (fun hb => ?_) (fun hb => ?_) | refine And.intro ?_ ?_)
      all_goals first | exact True.intro | omega | with_reducible rfl | exact congrArg (AV.int _) (by omega) | (first | rfl)
    · intro i hi
      have htl : ((parts.take i).map atN).length = i := by rw [List.length_map, List.length_take]; omega
      simp only [go_sem]
      refine fork_intro (fun hc => ?_) (fun hc => ?_)
      · have hm := hmem i (by omega)
        have e := take_succ_map atN parts (k := i) (by omega)
        refine ⟨by omega, hm, ?_⟩
        repeat' (first | refine fork_intro (fun hb => ?_) (fun hb => ?_) | refine partB_intro (fun hb => ?_) (fun hb => ?_) | refine And.intro ?_ ?_)
        all_goals first | exact True.intro | omega | with_reducible rfl | exact congrArg (AV.int _) (by omega) | (refine LoopEnd.intro (i + 1) (by first | omega) (by first | omega | (dsimp only; omega)) (by omega) ?_; simp only [go_sem]; (repeat' (first | refine fork_intro (fun hb => ?_) (fun hb => ?_) | refine partB_intro (fun hb => ?_) (fun hb => ?_) | refine And.intro ?_ ?_)); all_goals first | exact True.intro | omega | with_reducible rfl | exact congrArg (AV.int _) (by omega) | (first | rw [e])) | (first | rw [e])
      · rw [show i = parts.length by omega, List.take_length]
def t_rdNI : Table := [(57, ownC g_rdNI)]
theorem t_rdNI_ok : TabOK Tryd.prog t_rdNI := .cons Tryd.func57 (by kernel_rfl) (.own (by intro args hp; unfold g_rdNI at hp ⊢; split at hp <;> first | exact hp.elim | exact ⟨rdNI_ok _ hp, rfl⟩)) (.nil _)
attribute [go_sem] g_rdNI_eq t_rdNI
theorem eval_put {a : Act} {t : Nat} {v : Value} (ht : t < a.tmps.size) : (a.put (some t) v).eval (.tmp t) = v := by
  show (a.tmps.setIfInBounds t v).getD t Go.undef = v
  rw [Array.getD_eq_getD_getElem?, Array.getElem?_setIfInBounds]
  simp [ht]
theorem eval_ne {a : Act} {t s : Nat} {v : Value} (h : t ≠ s) : (a.put (some t) v).eval (.tmp s) = a.eval (.tmp s) := by
  show (a.tmps.setIfInBounds t v).getD s Go.undef = a.tmps.getD s Go.undef
  rw [Array.getD_eq_getD_getElem?, Array.getElem?_setIfInBounds, Array.getD_eq_getD_getElem?, if_neg h]
theorem step_val {P : Program} {ops : Array Oper} {Q : Exit -> Act -> World -> Prop} {o : Oper} {rest : List Oper} {a : Act} {w w' : World} {cv : Value} (hg : o.guard = none) (hr : (execOp a.eval o).run P w = .ok (.value cv) w') (h : wpList P ops Q rest (a.put o.dst cv) w') : wpList P ops Q (o :: rest) a w := by
  unfold wpList
  rw [if_pos (by simp [Region.wanted, hg])]
  refine .inl ?_
  unfold Oper.wp
  rw [hr]
  exact h
theorem EnvRel.set {S : Store} {ρ : Rho} {H : HF} {e : Env} {a : Act} (h : EnvRel S ρ H e a) {t : Nat} {v : AV} {cv : Value} {k : Nat} (hv : V S ρ H v cv) (hk : a.tmps.size = k) (ht : t < k) : EnvRel S ρ H ((t, v) :: e) (a.put (some t) cv) :=
  h.put (d := some t) hv (fun t' e => by cases e; rw [hk]; exact ht)
section
variable {P : Program} {own : Nat -> Prop} {S : Store} {ρ : Rho} {H : HF} {w : World}
/-- A literal of one empty row. -/
theorem one_own (h : Rel own S ρ H w) (hown : ∀ b, w.heap.size <= b -> own b) {n : Nat} (hr : H n = none) (el : TypeId) (a : Option Addr) :
    Grow own S ρ H w S (ρ.set n w.heap.size 1) (addH [(n, .mat [[]])] H) { w with heap := w.heap.push (.cells #[.slice a 0 0] el) } /\
      V S (ρ.set n w.heap.size 1) (addH [(n, .mat [[]])] H) (.mt n) (.slice (some ⟨w.heap.size, 0, none⟩) 1 1) := by
  refine ⟨grow_own h hown hr _ el _ 1 ⟨#[.slice a 0 0], fun _ => ⟨el, by simp [Rho.set]⟩, by simp [Rho.set], by simp [Rho.set], fun i row hi => ?_⟩ (fun j hf => ?_), ?_⟩
  · rcases i with _ | i
    · cases hi
      exact ⟨⟨.slice a 0 0, rfl, a, Nat.zero_le _, by simp [Rho.set], fun h => by simp [Rho.set] at h⟩, fun h => by simp [Rho.set] at h⟩
    · simp at hi
  · unfold foot at hf
    rw [addH_self] at hf
    rcases hf with ⟨h1, _⟩ | ⟨i, row, _, _, h3⟩
    · exact h1
    · simp [Rho.set] at h3
  · have := V.mt (S := S) (ρ := ρ.set n w.heap.size 1) (H := addH [(n, .mat [[]])] H) n [[]] (some ⟨w.heap.size, 0, none⟩) (addH_self _ _ _) (fun _ => by simp [Rho.set])
    simpa [Rho.set] using this
theorem empty_run {TM ty : TypeId} {m b : Nat} (hap : ap P TM = some (m, b)) : ∃ el, (Instr.buildSlice TM 0 ⟨[]⟩).run P w = .ok (.slice (some ⟨w.heap.size, 0, none⟩) 0 0) { w with heap := w.heap.push (.cells #[] el) } := by
  obtain ⟨el, i, z, ht, hi, hzero, hzs, hsize, hby⟩ := ap_spec hap
  refine ⟨el, ?_⟩
  have : (Instr.buildSlice TM 0 ⟨[]⟩).run P w = .ok (.slice (some ⟨w.heap.size, 0, none⟩) 0 0) (w.alloc (.cells #[] el)) := by
    simp [Instr.buildSlice, run_underlying ht, sizeOf, typeInfo, hi, newRow, Array.range_zero', Instr.fill]
  exact this
theorem one_run {TM : TypeId} {b : Nat} (hap : ap P TM = some (1, b)) {hd : Value} (hc : hd.cells = #[hd]) : ∃ el, (Instr.buildSlice TM 1 ⟨[(0, hd)]⟩).run P w = .ok (.slice (some ⟨w.heap.size, 0, none⟩) 1 1) { w with heap := w.heap.push (.cells #[hd] el) } := by
  obtain ⟨el, i, z, ht, hi, hzero, hzs, hsize, hby⟩ := ap_spec hap
  obtain ⟨m, hm1⟩ : ∃ m : Nat, m = 1 := ⟨1, rfl⟩
  rw [<- hm1] at hzs hsize
  obtain ⟨cs, f1, f2, _, f4⟩ := fill_ok m [hd] 0 (madeCells z.cells (1 * m)) (fun v hv => by rw [List.mem_singleton.1 hv, hc, hm1]; rfl) (by rw [size_madeCells]; simp)
  have hparts : [(0, hd)] = (([hd] : List Value).zipIdx 0).map fun x => (x.2, x.1) := rfl
  have hnb : ¬ 16777216 < 1 * m := by subst hm1; omega
  have hz0 : ¬ 1 * m = 0 := by subst hm1; omega
  have hcs : cs = #[hd] := by
    have h1 : cs.size = 1 := by rw [f2, size_madeCells, hm1]
    have h2 := f4 0 hd 0 rfl (by omega)
    rw [hc, hm1] at h2
    have h3 : cs[0]? = some hd := by simpa using h2
    apply Array.ext (by rw [h1]; rfl)
    intro j g1 g2
    obtain rfl : j = 0 := by omega
    rw [Array.getElem?_eq_getElem g1] at h3
    exact Option.some.inj h3
  refine ⟨el, ?_⟩
  have : (Instr.buildSlice TM 1 ⟨[(0, hd)]⟩).run P w = .ok (.slice (some ⟨w.heap.size, 0, none⟩) 1 1) (w.alloc (.cells cs el)) := by
    simp only [madeCells] at f1
    rw [<- hparts, Nat.one_mul] at f1
    rw [Nat.one_mul] at hnb hz0
    simp [Instr.buildSlice, run_underlying ht, sizeOf, typeInfo, hi, hsize, hz0, zeroValue, hzero, hnb, f1, newRow]
  rw [hcs] at this
  exact this
end
theorem seed_region {hint : Hint} {i : Nat} {s : ByteArray} {e : Env} {h : Heap} {n : Nat} {Q : AQ} {p0 p1 p2 p3 p4 p5 : String} {f0 f1 f2 f3 f4 f5 : Array Edge} {t0 t1 t2 t3 t4 t5 : TypeId} {ts : Array TypeId}
    (he : e.get 0 = .str s) (hs : s.size <= 1048576)
    (hQ : Q .normal ((5, .mt n) :: (4, .strs (splL s 32)) :: (12, .mt n) :: (11, .undef) :: (10, .strs (splL s 32)) :: (9, .str s) :: e) ((n, .mat [[]]) :: h) (n + 1)) :
    UserP Tryd.prog hint (Code.region i ⟨[⟨some 9, .move (.tmp 0), t0, p0, f0, none⟩, ⟨some 10, .call ⟨.value (.func 41), ⟨[.tmp 9, .const (.int .u8 32)]⟩, ts⟩, t1, p1, f1, none⟩, ⟨some 11, .buildSlice 35 0 ⟨[]⟩, t2, p2, f2, none⟩, ⟨some 12, .buildSlice 36 1 ⟨[(0, .tmp 11)]⟩, t3, p3, f3, none⟩, ⟨some 4, .assign (.tmp 10), t4, p4, f4, none⟩, ⟨some 5, .assign (.tmp 12), t5, p5, f5, none⟩]⟩ false)
      [⟨some 9, .move (.tmp 0), t0, p0, f0, none⟩, ⟨some 10, .call ⟨.value (.func 41), ⟨[.tmp 9, .const (.int .u8 32)]⟩, ts⟩, t1, p1, f1, none⟩, ⟨some 11, .buildSlice 35 0 ⟨[]⟩, t2, p2, f2, none⟩, ⟨some 12, .buildSlice 36 1 ⟨[(0, .tmp 11)]⟩, t3, p3, f3, none⟩, ⟨some 4, .assign (.tmp 10), t4, p4, f4, none⟩, ⟨some 5, .assign (.tmp 12), t5, p5, f5, none⟩] Q e h n := by
  intro x a w hx0 hdst hsat
  have h12 : 12 < x.k := dstOK_mem hdst (o := ⟨some 12, .buildSlice 36 1 ⟨[(0, .tmp 11)]⟩, t3, p3, f3, none⟩) (by simp) 12 rfl
  refine wp_region ?_
  have hwl := wpOps_eq_wpList (P := Tryd.prog) (Q := fun ex a w => ∃ e h n, Q ex e h n /\ Sat x e h n a w) (ops := ⟨[⟨some 9, .move (.tmp 0), t0, p0, f0, none⟩, ⟨some 10, .call ⟨.value (.func 41), ⟨[.tmp 9, .const (.int .u8 32)]⟩, ts⟩, t1, p1, f1, none⟩, ⟨some 11, .buildSlice 35 0 ⟨[]⟩, t2, p2, f2, none⟩, ⟨some 12, .buildSlice 36 1 ⟨[(0, .tmp 11)]⟩, t3, p3, f3, none⟩, ⟨some 4, .assign (.tmp 10), t4, p4, f4, none⟩, ⟨some 5, .assign (.tmp 12), t5, p5, f5, none⟩]⟩)
    [⟨some 9, .move (.tmp 0), t0, p0, f0, none⟩, ⟨some 10, .call ⟨.value (.func 41), ⟨[.tmp 9, .const (.int .u8 32)]⟩, ts⟩, t1, p1, f1, none⟩, ⟨some 11, .buildSlice 35 0 ⟨[]⟩, t2, p2, f2, none⟩, ⟨some 12, .buildSlice 36 1 ⟨[(0, .tmp 11)]⟩, t3, p3, f3, none⟩, ⟨some 4, .assign (.tmp 10), t4, p4, f4, none⟩, ⟨some 5, .assign (.tmp 12), t5, p5, f5, none⟩] 0 (by simp)
  refine (congrFun (congrFun hwl a) w).mpr ?_
  refine wpList_append [⟨some 11, .buildSlice 35 0 ⟨[]⟩, t2, p2, f2, none⟩, ⟨some 12, .buildSlice 36 1 ⟨[(0, .tmp 11)]⟩, t3, p3, f3, none⟩, ⟨some 4, .assign (.tmp 10), t4, p4, f4, none⟩, ⟨some 5, .assign (.tmp 12), t5, p5, f5, none⟩] [⟨some 9, .move (.tmp 0), t0, p0, f0, none⟩, ⟨some 10, .call ⟨.value (.func 41), ⟨[.tmp 9, .const (.int .u8 32)]⟩, ts⟩, t1, p1, f1, none⟩] a w ?_
  refine opsA_seq (hint := hintX [] [] x.n0 [] []) (all := [⟨some 9, .move (.tmp 0), t0, p0, f0, none⟩, ⟨some 10, .call ⟨.value (.func 41), ⟨[.tmp 9, .const (.int .u8 32)]⟩, ts⟩, t1, p1, f1, none⟩, ⟨some 11, .buildSlice 35 0 ⟨[]⟩, t2, p2, f2, none⟩, ⟨some 12, .buildSlice 36 1 ⟨[(0, .tmp 11)]⟩, t3, p3, f3, none⟩, ⟨some 4, .assign (.tmp 10), t4, p4, f4, none⟩, ⟨some 5, .assign (.tmp 12), t5, p5, f5, none⟩]) t_splitS_ok (Nat.le_refl _) (K := fun e' h' n' => e' = (10, .strs (splL s 32)) :: (9, .str s) :: e /\ h' = h /\ n' = n) ?_ _ e h n a w (by
    simp only [dstOK, List.all_cons, Bool.and_eq_true, decide_eq_true_eq] at hdst ⊢
    exact ⟨hdst.1, hdst.2.1, rfl⟩) ?_ hsat
  · rintro e' h' n' a' w' ⟨rfl, rfl, rfl⟩ hs'
    show wpList Tryd.prog _ (fun ex a w => ∃ e h n, Q ex e h n /\ Sat x e h n a w) [⟨some 11, .buildSlice 35 0 ⟨[]⟩, t2, p2, f2, none⟩, ⟨some 12, .buildSlice 36 1 ⟨[(0, .tmp 11)]⟩, t3, p3, f3, none⟩, ⟨some 4, .assign (.tmp 10), t4, p4, f4, none⟩, ⟨some 5, .assign (.tmp 12), t5, p5, f5, none⟩] a' w'
    obtain ⟨S, ρ, s1, s2, hrel, hfx, hE, hkept, hk, hdf, hn, hxn⟩ := hs'
    have hown : ∀ b, w'.heap.size <= b -> x.own b := fun b hb => x.hown b (Nat.le_trans hkept.size hb)
    obtain ⟨el1, r11⟩ := empty_run (P := Tryd.prog) (w := w') (ty := t2) ap35
    have hrel1 := hrel.push (.cells #[] el1)
    have g0 : Grow x.own S ρ h'.look w' S ρ h'.look { w' with heap := w'.heap.push (.cells #[] el1) } := ⟨hrel1, fun _ _ h => h, fun _ h1 h2 => absurd h1 h2, .refl _ _, (Kept.refl _ _).alloc _⟩
    have hsz : ∀ b, ({ w' with heap := w'.heap.push (.cells #[] el1) } : World).heap.size <= b -> x.own b := fun b hb => hown b (by simp at hb; omega)
    obtain ⟨el2, r12⟩ := one_run (P := Tryd.prog) (w := { w' with heap := w'.heap.push (.cells #[] el1) }) (hd := .slice (some ⟨w'.heap.size, 0, none⟩) 0 0) ap36 rfl
    have hnn : h'.look n' = none := by
      cases hl : h'.look n' with
      | none => rfl
      | some k => exact absurd (hn n' (by rw [hl]; simp)) (Nat.lt_irrefl _)
    obtain ⟨g, hv⟩ := one_own hrel1 hsz hnn el2 (some ⟨w'.heap.size, 0, none⟩)
    have gg := g0.trans g
    generalize hw1 : ({ w' with heap := w'.heap.push (.cells #[] el1) } : World) = w1 at *
    generalize hw2 : ({ w1 with heap := w1.heap.push (.cells #[.slice (some ⟨w'.heap.size, 0, none⟩) 0 0] el2) } : World) = w2 at *
    have hlk : addH [(n', Blk.mat [[]])] h'.look = Heap.look ((n', Blk.mat [[]]) :: h') := addH_look [(n', Blk.mat [[]])] h'
    rw [hlk] at gg hv
    have v10 : V S ρ h'.look (.strs (splL s 32)) (a'.eval (.tmp 10)) := hE 10
    have E0 := hE.ext gg.store gg.keep
    have E1 := EnvRel.set (t := 11) (v := .undef) (cv := .slice (some ⟨w'.heap.size, 0, none⟩) 0 0) E0 (.pure _ _ (.undef _)) hk (by omega)
    have E2 := EnvRel.set (t := 12) E1 hv ((put_size _ _ _).trans hk) (by omega)
    have E3 := EnvRel.set (t := 4) E2 (gg.v v10) (((put_size _ _ _).trans (put_size _ _ _)).trans hk) (by omega)
    have E4 := EnvRel.set (t := 5) E3 hv ((((put_size _ _ _).trans (put_size _ _ _)).trans (put_size _ _ _)).trans hk) (by omega)
    refine step_val rfl (cv := .slice (some ⟨w'.heap.size, 0, none⟩) 0 0) (w' := w1) (by simp [execOp, r11]) ?_
    show wpList _ _ _ _ (a'.put (some 11) (.slice (some ⟨w'.heap.size, 0, none⟩) 0 0)) w1
    have e11 : (a'.put (some 11) (.slice (some ⟨w'.heap.size, 0, none⟩) 0 0)).eval (.tmp 11) = .slice (some ⟨w'.heap.size, 0, none⟩) 0 0 := eval_put (by omega)
    refine step_val rfl (cv := .slice (some ⟨w1.heap.size, 0, none⟩) 1 1) (w' := w2) (by simp [execOp, e11, r12]) ?_
    show wpList _ _ _ _ ((a'.put (some 11) (.slice (some ⟨w'.heap.size, 0, none⟩) 0 0)).put (some 12) (.slice (some ⟨w1.heap.size, 0, none⟩) 1 1)) w2
    have e10 : ((a'.put (some 11) (.slice (some ⟨w'.heap.size, 0, none⟩) 0 0)).put (some 12) (.slice (some ⟨w1.heap.size, 0, none⟩) 1 1)).eval (.tmp 10) = a'.eval (.tmp 10) := by rw [eval_ne (by omega), eval_ne (by omega)]
    refine step_val rfl (cv := a'.eval (.tmp 10)) (w' := w2) (by simp [execOp, e10]) ?_
    show wpList _ _ _ _ (((a'.put (some 11) (.slice (some ⟨w'.heap.size, 0, none⟩) 0 0)).put (some 12) (.slice (some ⟨w1.heap.size, 0, none⟩) 1 1)).put (some 4) (a'.eval (.tmp 10))) w2
    have e12 : (((a'.put (some 11) (.slice (some ⟨w'.heap.size, 0, none⟩) 0 0)).put (some 12) (.slice (some ⟨w1.heap.size, 0, none⟩) 1 1)).put (some 4) (a'.eval (.tmp 10))).eval (.tmp 12) = .slice (some ⟨w1.heap.size, 0, none⟩) 1 1 := by rw [eval_ne (by omega)]; exact eval_put (by rw [put_size]; omega)
    refine step_val rfl (cv := .slice (some ⟨w1.heap.size, 0, none⟩) 1 1) (w' := w2) (by simp [execOp, e12]) ?_
    show ∃ e h n, Q .normal e h n /\ Sat x e h n ((((a'.put (some 11) (.slice (some ⟨w'.heap.size, 0, none⟩) 0 0)).put (some 12) (.slice (some ⟨w1.heap.size, 0, none⟩) 1 1)).put (some 4) (a'.eval (.tmp 10))).put (some 5) (.slice (some ⟨w1.heap.size, 0, none⟩) 1 1)) w2
    refine ⟨_, _, _, hQ, S, _, s1, s2, gg.rel, hfx.keep gg.keep (fun r h1 h2 => ?_), E4, hkept.trans gg.kept, by rw [put_size, put_size, put_size, put_size]; exact hk, by rw [put_defers, put_defers, put_defers, put_defers]; exact hdf, fun r hr => ?_, by omega⟩
    · intro h3
      apply h2
      unfold Heap.look
      rw [if_neg (by omega)]
      exact h3
    · by_cases hrn : n' = r
      · omega
      · have : h'.look r ≠ none := fun h3 => hr (by unfold Heap.look; rw [if_neg hrn]; exact h3)
        have := hn r this
        omega
  · unfold t_splitS
    simp only [go_sem, he, g_splitS_eq]
    exact ⟨⟨hs, by omega, by omega⟩, rfl, by omega⟩
theorem rd_next {ws : List ByteArray} {i : Nat} (hi : i < ws.length) {R : List (List Int)} (h : rdL [[]] (ws.take i) = some R) : rdL [[]] (ws.take (i + 1)) = rdStep R (ix ws (i : Int)) := by
  rw [take_ix ws hi, rdL_app, h]
  simp only [rdL]
  cases rdStep R (ix ws (i : Int)) <;> rfl
theorem rd_fail {ws : List ByteArray} {i k : Nat} (hk : i <= k) (h : rdL [[]] (ws.take i) = none) : rdL [[]] (ws.take k) = none := by
  have e : ws.take k = ws.take i ++ (ws.take k).drop i := by
    have := List.take_append_drop i (ws.take k)
    rw [List.take_take, Nat.min_eq_left hk] at this
    exact this.symm
  rw [e, rdL_app, h]
def g_readFS : List AV -> Prop × AV
  | [.str s] => (s.size <= 1048576, .tup [.agg [.ints (rdO s), .rows (rdD s)], .bool (rdA s).isSome])
  | _ => (False, .undef)
theorem g_readFS_eq (s : ByteArray) : g_readFS [.str s] = (s.size <= 1048576, .tup [.agg [.ints (rdO s), .rows (rdD s)], .bool (rdA s).isSome]) := (rfl)
theorem readFS_ok (s : ByteArray) (hp : s.size <= 1048576) : SpecOK Tryd.prog 56 [.str s] (.tup [.agg [.ints (rdO s), .rows (rdD s)], .bool (rdA s).isSome]) [] := by
  refine fun_ok (C := t_splitS ++ t_readS) (hint := hintX [2, 29] [(1, [.mv 0 0]), (11, [.fz [5]])] 0 [] [] [] [(10, [12])]) ((t_splitS_ok).append t_readS_ok) mixed Tryd.func56 rfl (by kernel_rfl) rfl ?_
  show codeA _ _ _ _ _ _ _ _
  simp only [go_sem, Tryd.results56]
  refine seed_region rfl hp ?_
  simp only [go_sem]
  obtain ⟨l1, l2⟩ := splL_len s 32
  have hmem : ∀ i : Nat, i < (splL s 32).length -> (ix (splL s 32) (i : Int)).size <= 1048576 := fun i hi => by
    have h := ix_mem (splL s 32) hi
    rw [<- partsB_one] at h
    have := partsB_mem h
    rw [partsB_one] at this
    omega
  have hA : rdA s = rdL [[]] ((splL s 32).take 80) := rfl
  generalize splL s 32 = ws at *
  refine loop_intro (fun g : Nat × List (List Int) => [(6, .int .i64 g.1), (5, .mt 1), (4, .strs ws), (2, .bx 0 0), (3, .bool false)]) (fun g => [(1, .mat g.2), (0, .box [.nils, .nils])]) 2 (fun g => (g.1 <= ws.length /\ g.1 <= 80) /\ rdL [[]] (ws.take g.1) = some g.2 /\ (1 <= g.2.length /\ g.2.length <= g.1 + 1) /\ ∀ r ∈ g.2, r.length <= g.1) (fun g => ws.length - g.1) (0, [[]]) ⟨⟨Nat.zero_le _, Nat.zero_le _⟩, rfl, ⟨by show 1 <= 1; omega, by show 1 <= 1; omega⟩, fun r hr => by rw [List.mem_singleton.1 hr]; exact Nat.le_refl _⟩ (Nat.zero_le _) ?_ ?_
  · simp only [go_sem]
    repeat' (first | refine fork_intro (fun hb => ?_) (fun hb => ?_) | refine partB_intro (fun hb => ?_) (fun hb => ?_) | refine And.intro ?_ ?_)
    all_goals first | exact True.intro | omega | with_reducible rfl | exact congrArg (AV.int _) (by omega) | (first | rfl)
  · rintro ⟨i, R⟩ ⟨⟨hi, hi8⟩, hR, ⟨hR1, hR2⟩, hRr⟩
    simp only at hi hi8 hR hR1 hR2 hRr
    simp only [go_sem]
    rw [beqL]
    have done : rdA s = some R -> ((0 <= (0 : Int) /\ (0 : Int) < R.length) /\ (0 <= (1 : Int) /\ (1 : Int) <= R.length /\ (R.length : Int) <= R.length) /\ (AV.ints (ix R 0) = AV.ints (rdO s) /\ AV.rows (cutL R 1 R.length) = AV.rows (rdD s)) /\ AV.bool true = AV.bool (rdA s).isSome) := fun h => by
      have e1 : rdO s = ix R 0 := by unfold rdO; rw [h]; rfl
      have e2 : rdD s = R.drop 1 := by unfold rdD; rw [h]; rfl
      have e3 : cutL R 1 (R.length : Int) = R.drop 1 := by
        unfold cutL
        rw [Int.toNat_natCast, List.take_length]
        rfl
      rw [e1, e2, e3, h]
      exact ⟨by omega, by omega, ⟨rfl, rfl⟩, rfl⟩
    refine fork_intro (fun hc => ?_) (fun hc => ?_)
    · have hil : i < ws.length := by omega
      refine fork_intro (fun hc2 => ?_) (fun hc2 => ?_)
      · have hnx := rd_next hil hR
        refine ⟨by omega, partB_intro (fun hs => ?_) (fun hs => ?_)⟩
        · have hw : ix ws (i : Int) = slash1 := of_decide_eq_true hs
          have e : rdStep R (ix ws (i : Int)) = some (R ++ [[]]) := by unfold rdStep; rw [if_pos hw]
          rw [e] at hnx
          have hrow : ∀ r ∈ R ++ [[]], r.length <= i + 1 := fun r hr => by
            rcases List.mem_append.1 hr with hr | hr
            · have := hRr r hr; omega
            · rw [List.mem_singleton.1 hr]; exact Nat.zero_le _
          have hlen : (R ++ [[]]).length = R.length + 1 := by simp
          repeat' (first | refine fork_intro (fun hb => ?_) (fun hb => ?_) | refine partB_intro (fun hb => ?_) (fun hb => ?_) | refine And.intro ?_ ?_)
          all_goals first | exact True.intro | omega | with_reducible rfl | exact congrArg (AV.int _) (by omega) | (refine LoopEnd.intro ((i + 1, R ++ [[]])) (by first | omega | (first | exact ⟨by show i + 1 <= _ /\ i + 1 <= 80; omega, hnx, by show 1 <= (R ++ [[]]).length /\ (R ++ [[]]).length <= i + 1 + 1; omega, hrow⟩)) (by first | omega | (dsimp only; omega)) (by omega) ?_; simp only [go_sem]; (repeat' (first | refine fork_intro (fun hb => ?_) (fun hb => ?_) | refine partB_intro (fun hb => ?_) (fun hb => ?_) | refine And.intro ?_ ?_)); all_goals first | exact True.intro | omega | with_reducible rfl | exact congrArg (AV.int _) (by omega) | (first | rfl)) | (first | rfl)
        · have hw : ¬ ix ws (i : Int) = slash1 := of_decide_eq_false hs
          refine ⟨by omega, hmem i hil, partB_intro (fun hk => ?_) (fun hk => ?_)⟩
          · have hl1 : ((R.length : Int) - 1) = ((R.length - 1 : Nat) : Int) := by omega
            have e : rdStep R (ix ws (i : Int)) = some (R.set (R.length - 1) (ix R ((R.length - 1 : Nat) : Int) ++ [valN (ix ws (i : Int))])) := by unfold rdStep; rw [if_neg hw, if_pos hk]
            rw [e] at hnx
            rw [hk, cond_true, hl1, Int.toNat_natCast]
            have hlast := hRr _ (ix_mem R (show R.length - 1 < R.length by omega))
            generalize hx : ix R ((R.length - 1 : Nat) : Int) ++ [valN (ix ws (i : Int))] = x at *
            have hxl : x.length <= i + 1 := by rw [<- hx, List.length_append]; simp only [List.length_singleton]; omega
            have hrow : ∀ r ∈ R.set (R.length - 1) x, r.length <= i + 1 := fun r hr => by
              rcases List.mem_or_eq_of_mem_set hr with hr | rfl
              · have := hRr r hr; omega
              · exact hxl
            have hlen : (R.set (R.length - 1) x).length = R.length := List.length_set
            repeat' (first | refine fork_intro (fun hb => ?_) (fun hb => ?_) | refine partB_intro (fun hb => ?_) (fun hb => ?_) | refine And.intro ?_ ?_)
            all_goals first | exact True.intro | omega | with_reducible rfl | exact congrArg (AV.int _) (by omega) | (refine LoopEnd.intro ((i + 1, R.set (R.length - 1) x)) (by first | omega | (first | exact ⟨by show i + 1 <= _ /\ i + 1 <= 80; omega, hnx, by show 1 <= (R.set (R.length - 1) x).length /\ (R.set (R.length - 1) x).length <= i + 1 + 1; omega, hrow⟩)) (by first | omega | (dsimp only; omega)) (by omega) ?_; simp only [go_sem]; (repeat' (first | refine fork_intro (fun hb => ?_) (fun hb => ?_) | refine partB_intro (fun hb => ?_) (fun hb => ?_) | refine And.intro ?_ ?_)); all_goals first | exact True.intro | omega | with_reducible rfl | exact congrArg (AV.int _) (by omega) | (first | rfl)) | (first | rfl)
          · have e : rdStep R (ix ws (i : Int)) = none := by unfold rdStep; rw [if_neg hw, if_neg (by rw [hk]; simp)]
            rw [e] at hnx
            have hN : rdA s = none := by rw [hA]; exact rd_fail (by omega) hnx
            have e1 : rdO s = [] := by unfold rdO; rw [hN]; rfl
            have e2 : rdD s = [] := by unfold rdD; rw [hN]; rfl
            rw [e1, e2, hN]
            exact ⟨⟨rfl, rfl⟩, rfl⟩
      · have h80 : i = 80 := by omega
        rw [h80] at hR
        exact done (by rw [hA]; exact hR)
    · have hl : i = ws.length := by omega
      exact done (by rw [hA, List.take_of_length_le (by omega)]; rw [hl, List.take_length] at hR; exact hR)
def t_readFS : Table := [(56, pureC g_readFS)]
theorem t_readFS_ok : TabOK Tryd.prog t_readFS := .cons Tryd.func56 (by kernel_rfl) (.pure (by intro args hp; unfold g_readFS at hp ⊢; split at hp <;> first | exact hp.elim | exact readFS_ok _ hp)) (.nil _)
attribute [go_sem] g_readFS_eq t_readFS
theorem rd_bd : ∀ (ws : List ByteArray) (rows R : List (List Int)) (k : Nat), rdL rows ws = some R -> (∀ r ∈ rows, r.length <= k) -> R.length <= rows.length + ws.length /\ ∀ r ∈ R, r.length <= k + ws.length
  | [], rows, R, k, h, hk => by
    obtain rfl : rows = R := Option.some.inj h
    exact ⟨Nat.le_refl _, hk⟩
  | w :: ws, rows, R, k, h, hk => by
    rw [rdL] at h
    have key : ∀ r2, rdStep rows w = some r2 -> r2.length <= rows.length + 1 /\ ∀ r ∈ r2, r.length <= k + 1 := fun r2 h2 => by
      unfold rdStep at h2
      split at h2
      · obtain rfl := Option.some.inj h2
        refine ⟨by simp, fun r hr => ?_⟩
        rcases List.mem_append.1 hr with hr | hr
        · have := hk r hr; omega
        · rw [List.mem_singleton.1 hr]; exact Nat.zero_le _
      · split at h2
        · obtain rfl := Option.some.inj h2
          refine ⟨by rw [List.length_set]; omega, fun r hr => ?_⟩
          rcases List.mem_or_eq_of_mem_set hr with hr | rfl
          · have := hk r hr; omega
          · rw [List.length_append]
            by_cases h0 : rows.length - 1 < rows.length
            · have := hk _ (ix_mem rows h0)
              simp only [List.length_singleton]; omega
            · have e0 : rows = [] := List.length_eq_zero_iff.1 (by omega)
              subst e0
              show ([] : List Int).length + 1 <= _
              simp
        · cases h2
    cases hs : rdStep rows w with
    | none => rw [hs] at h; cases h
    | some r2 =>
      rw [hs] at h
      obtain ⟨g1, g2⟩ := key r2 hs
      obtain ⟨q1, q2⟩ := rd_bd ws r2 R (k + 1) h g2
      rw [List.length_cons]
      exact ⟨by omega, fun r hr => by have := q2 r hr; omega⟩
def g_parseFS : List AV -> Prop × AV
  | [.str s] => (s.size <= 1048576, .tup [.agg [.ints (bif pfB s then pfO s else []), .rows (bif pfB s then pfD s else [])], .bool (pfB s)])
  | _ => (False, .undef)
theorem g_parseFS_eq (s : ByteArray) : g_parseFS [.str s] = (s.size <= 1048576, .tup [.agg [.ints (bif pfB s then pfO s else []), .rows (bif pfB s then pfD s else [])], .bool (pfB s)]) := (rfl)
theorem parseFS_ok (s : ByteArray) (hp : s.size <= 1048576) : SpecOK Tryd.prog 28 [.str s] (.tup [.agg [.ints (bif pfB s then pfO s else []), .rows (bif pfB s then pfD s else [])], .bool (pfB s)]) [] := by
  refine fun_ok (C := t_readFS ++ t_l2Good ++ t_textS) (hint := hintX [2, 4] [] 0 [] [] [] []) (((t_readFS_ok).append t_l2Good_ok).append t_textS_ok) mixed Tryd.func28 rfl (by kernel_rfl) rfl ?_
  show codeA _ _ _ _ _ _ _ _
  simp only [go_sem, Tryd.results28]
  obtain ⟨e1, e2⟩ := ps_pf s
  have fin : ∀ b : Bool, b = false -> pfB s = b -> (((bif pfB s then pfO s else []) = [] /\ (bif pfB s then pfD s else []) = []) /\ AV.bool false = AV.bool (pfB s)) := fun b hb h => by rw [h, hb]; exact ⟨⟨rfl, rfl⟩, rfl⟩
  rw [beqL]
  refine ⟨hp, partB_intro (fun hs => ?_) (fun hs => ?_)⟩
  · obtain ⟨R, hR⟩ := Option.isSome_iff_exists.1 hs
    have hbd := rd_bd _ _ R 0 hR (fun r hr => by rw [List.mem_singleton.1 hr]; exact Nat.le_refl _)
    have hwl : (wordsOf s).length <= 80 := by unfold wordsOf; rw [List.length_take]; omega
    have f1 : (rdO s).length <= 80 := by
      unfold rdO; rw [hR]
      show (ix R 0).length <= 80
      rcases R with _ | ⟨r, R⟩
      · exact Nat.zero_le _
      · have := hbd.2 r List.mem_cons_self
        show r.length <= 80
        omega
    have f2 : (rdD s).length <= 81 := by
      unfold rdD; rw [hR]
      show (R.drop 1).length <= 81
      have := hbd.1
      rw [List.length_drop]
      simp only [List.length_singleton] at this
      omega
    have f3 : ∀ x ∈ rdD s, x.length <= 80 := fun x hx => by
      unfold rdD at hx; rw [hR] at hx
      have := hbd.2 x (List.mem_of_mem_drop hx)
      omega
    refine ⟨⟨by omega, by omega, fun x hx => by have := f3 x hx; omega⟩, partB_intro (fun hg => ⟨good_iff.1 hg, partB_intro (fun ht => ?_) (fun ht => ?_)⟩) (fun hg => ?_)⟩
    · have hps : psB s = true := by unfold psB; rw [hs, hg, ht]; rfl
      have hpf : pfB s = true := by rw [<- e1]; exact hps
      obtain ⟨q1, q2⟩ := e2 hpf
      rw [q1, q2, hpf]
      exact ⟨⟨rfl, rfl⟩, rfl⟩
    · exact fin false rfl (by rw [<- e1]; unfold psB; rw [ht]; simp)
    · exact fin false rfl (by rw [<- e1]; unfold psB; rw [hg]; simp)
  · exact fin false rfl (by rw [<- e1]; unfold psB; rw [hs]; rfl)
def t_parseFS : Table := [(28, pureC g_parseFS)]
theorem t_parseFS_ok : TabOK Tryd.prog t_parseFS := .cons Tryd.func28 (by kernel_rfl) (.pure (by intro args hp; unfold g_parseFS at hp ⊢; split at hp <;> first | exact hp.elim | exact parseFS_ok _ hp)) (.nil _)
attribute [go_sem] g_parseFS_eq t_parseFS
theorem rdN_len (s : ByteArray) : (rdN s).length <= s.size + 1 := by
  unfold rdN
  split
  · exact Nat.zero_le _
  · rw [List.length_map]
    have hz : (⟨#[32]⟩ : ByteArray).size = 1 := rfl
    exact (partsB_le s ⟨#[32]⟩ (by rw [hz]; omega)).2
def g_parseFI : List AV -> Prop × AV × Heap
  | [.str s] => (s.size <= 1048576, .tup [.agg [.sl 2, .mt 4], .bool (pfB s)], [(2, .arr (.ints (bif pfB s then pfO s else []))), (4, .mat (bif pfB s then pfD s else []))])
  | _ => (False, .undef, [])
theorem g_parseFI_eq (s : ByteArray) : g_parseFI [.str s] = (s.size <= 1048576, .tup [.agg [.sl 2, .mt 4], .bool (pfB s)], [(2, .arr (.ints (bif pfB s then pfO s else []))), (4, .mat (bif pfB s then pfD s else []))]) := (rfl)
theorem parseFI_ok (s : ByteArray) (hp : s.size <= 1048576) : SpecOK Tryd.prog 29 [.str s] (.tup [.agg [.sl 2, .mt 4], .bool (pfB s)]) [(2, .arr (.ints (bif pfB s then pfO s else []))), (4, .mat (bif pfB s then pfD s else []))] := by
  refine fun_ok (C := t_partsC ++ t_rdNI ++ t_ftextI) (hint := hintX [2, 5, 15, 27] [(2, [.post, .upf 5 1 (.mat [])]), (10, [.post, .drop [2, 3, 4] 2, .upf 2 0 (.arr (.ints [])), .skip, .upf 2 1 (.mat [])])] 0 [] [] [] []) (((t_partsC_ok).append t_rdNI_ok).append t_ftextI_ok) mixed Tryd.func29 rfl (by kernel_rfl) rfl ?_
  show codeA _ _ _ _ _ _ _ _
  simp only [go_sem, Tryd.results29]
  have hz : (⟨#[32, 47, 32]⟩ : ByteArray).size = 3 := rfl
  obtain ⟨hl1, hl2⟩ := partsB_le s slash3 (by show 1 <= (⟨#[32, 47, 32]⟩ : ByteArray).size; rw [hz]; omega)
  have hmem : ∀ i : Nat, i < (partsB s slash3).length -> (ix (partsB s slash3) (i : Int)).size <= 1048576 := fun i hi => by
    have := partsB_mem (ix_mem _ hi)
    omega
  have hO : pfO s = rdN (ix (partsB s slash3) 0) := rfl
  have hD : pfD s = ((partsB s slash3).drop 1).map rdN := rfl
  have hB : pfB s = (good (pfO s) (pfD s) && decide (textB (pfO s) (pfD s) (pfD s).length = s)) := rfl
  have es : (⟨#[32, 47, 32]⟩ : ByteArray) = slash3 := rfl
  rw [es, <- hO]
  have hcut : cutL (partsB s slash3) 1 ((partsB s slash3).length : Int) = (partsB s slash3).drop 1 := by
    unfold cutL
    rw [Int.toNat_natCast, List.take_length]
    rfl
  rw [hcut]
  have hm0 := hmem 0 (by omega)
  have hrm : ∀ i : Nat, i < ((partsB s slash3).drop 1).length -> (ix ((partsB s slash3).drop 1) (i : Int)).size <= 1048576 := fun i hi => by
    have := partsB_mem (List.mem_of_mem_drop (ix_mem _ hi))
    omega
  have hrl : ((partsB s slash3).drop 1).length <= 1048576 := by rw [List.length_drop]; omega
  have hOl : (pfO s).length <= 1048577 := by have := rdN_len (ix (partsB s slash3) 0); rw [hO]; have h0 : (ix (partsB s slash3) 0).size <= 1048576 := hm0; omega
  refine ⟨⟨by show 1 <= 3; omega, hp⟩, by omega, hm0, by omega, ?_⟩
  generalize (partsB s slash3).drop 1 = rest at *
  refine loop_intro (fun i : Nat => [(20, .int .i64 i), (19, .int .i64 rest.length), (18, .strs rest), (5, .bx 3 0), (3, .bool false), (2, .bx 0 0), (0, .str s)]) (fun i => [(4, .mat ((rest.take i).map rdN)), (3, .box [.sl 2, .mt 4]), (2, .arr (.ints (pfO s))), (0, .box [.nils, .nils])]) 5 (fun i => i <= rest.length) (fun i => rest.length - i) 0 (Nat.zero_le _) (Nat.zero_le _) ?_ ?_
  · simp only [go_sem]
    repeat' (first | refine fork_intro (fun hb => ?_) (fun hb => ?_) | refine partB_intro (fun hb => ?_) (fun hb => ?_) | refine And.intro ?_ ?_)
    all_goals first | exact True.intro | omega | with_reducible rfl | exact congrArg (AV.int _) (by omega) | (first | rfl)
  · intro i hi
    have htl : ((rest.take i).map rdN).length = i := by rw [List.length_map, List.length_take]; omega
    simp only [go_sem]
    rw [beqL]
    have no : pfB s = false -> (AV.bool false = AV.bool (pfB s) /\ AV.ints [] = AV.ints (bif pfB s then pfO s else []) /\ [] = bif pfB s then pfD s else []) := fun h => by rw [h]; exact ⟨rfl, rfl, rfl⟩
    refine fork_intro (fun hc => ?_) (fun hc => ?_)
    · have hil : i < rest.length := by omega
      have hms := hrm i hil
      have e := take_succ_map rdN rest hil
      repeat' (first | refine fork_intro (fun hb => ?_) (fun hb => ?_) | refine partB_intro (fun hb => ?_) (fun hb => ?_) | refine And.intro ?_ ?_)
      all_goals first | exact True.intro | omega | with_reducible rfl | exact congrArg (AV.int _) (by omega) | (refine LoopEnd.intro (i + 1) (by first | omega) (by first | omega | (dsimp only; omega)) (by omega) ?_; simp only [go_sem]; (repeat' (first | refine fork_intro (fun hb => ?_) (fun hb => ?_) | refine partB_intro (fun hb => ?_) (fun hb => ?_) | refine And.intro ?_ ?_)); all_goals first | exact True.intro | omega | with_reducible rfl | exact congrArg (AV.int _) (by omega) | (first | rw [e])) | (first | rw [e])
    · have hR : rest.take i = rest := List.take_of_length_le (by omega)
      rw [hR, <- hD] at htl ⊢
      refine ⟨⟨by omega, by omega, fun x hx => ?_⟩, partB_intro (fun hg => partB_intro (fun ht => ?_) (fun ht => ?_)) (fun hg => ?_)⟩
      · rw [hD] at hx
        obtain ⟨p, hp2, rfl⟩ := List.mem_map.1 hx
        have h1 := rdN_len p
        obtain ⟨j, hj, rfl⟩ := List.getElem_of_mem hp2
        have h2 := hrm j hj
        have h3 := ix_some rest hj
        rw [List.getElem?_eq_getElem hj] at h3
        rw [<- Option.some.inj h3] at h2
        omega
      · rw [hg, cond_true] at ht
        have hpf : pfB s = true := by rw [hB, hg, ht]; rfl
        rw [hpf]
        exact ⟨rfl, rfl, rfl⟩
      · rw [hg, cond_true] at ht
        exact no (by rw [hB, ht]; simp)
      · exact no (by rw [hB, hg]; rfl)
def t_parseFI : Table := [(29, ownC g_parseFI)]
theorem t_parseFI_ok : TabOK Tryd.prog t_parseFI := .cons Tryd.func29 (by kernel_rfl) (.own (by intro args hp; unfold g_parseFI at hp ⊢; split at hp <;> first | exact hp.elim | exact ⟨parseFI_ok _ hp, rfl⟩)) (.nil _)
attribute [go_sem] g_parseFI_eq t_parseFI
end Go.Proofs.YtjnongegddnobaaDoor
