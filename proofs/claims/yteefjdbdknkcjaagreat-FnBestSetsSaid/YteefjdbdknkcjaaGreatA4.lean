/- Metric fields and payments: both packages say the same. -/
import Derived.Test.YteefjdbdknkcjaaGreatA3
import Derived.Test.YteefjdbdknkcjaaGreatPlC
namespace Go.Proofs.YteefjdbdknkcjaaGreat
open Go.Vc
set_option maxRecDepth 100000
set_option linter.unusedSimpArgs false
set_option linter.unusedVariables false

def g_metS : List AV -> Prop × AV
  | [.agg [.ints o, .rows d]] => (FieldOK o d, .bool (metric d o.length))
  | _ => (False, .undef)
theorem g_metS_eq (o : List Int) (d : List (List Int)) : g_metS [.agg [.ints o, .rows d]] = (FieldOK o d, .bool (metric d o.length)) := (rfl)
theorem metS_ok (o : List Int) (d : List (List Int)) (hp : FieldOK o d) : SpecOK Tryz.prog 150 [.agg [.ints o, .rows d]] (.bool (metric d o.length)) [] := by
  refine fun_ok (C := []) (hint := hintX [] [] 0 [] [] [] []) (TabOK.nil _) mixed Tryz.func150 rfl (by kernel_rfl) rfl ?_
  show codeA _ _ _ _ _ _ _ _
  simp only [go_sem, Tryz.results150]
  have hn := hp.n7
  have hm := hp.m7
  refine loop_intro (fun i : Nat => [(3, .int .i64 i), (1, .iptr [.ints o, .rows d])]) (fun _ => []) 0 (fun i => i <= d.length /\ ∀ i', i' < i -> ∀ j, j < d.length -> ∀ a, a < o.length -> ∀ b, b < o.length -> metP d i' j a b) (fun i => d.length - i) 0 ⟨Nat.zero_le _, fun i' h => absurd h (Nat.not_lt_zero _)⟩ (Nat.zero_le _) ?_ ?_
  · simp only [go_sem]
    repeat' (first | refine fork_intro (fun hb => ?_) (fun hb => ?_) | refine partB_intro (fun hb => ?_) (fun hb => ?_) | refine And.intro ?_ ?_)
    all_goals first | trivial | rfl | omega
  · rintro i ⟨hi, ti⟩
    simp only [go_sem]
    refine fork_intro (fun bi => ?_) (fun bi => ?_)
    · obtain ⟨li, vi⟩ := row_of hp (k := i) (by omega)
      refine loop_intro (fun j : Nat => [(4, .int .i64 j), (3, .int .i64 i), (1, .iptr [.ints o, .rows d])]) (fun _ => []) 0 (fun j => j <= d.length /\ ∀ j', j' < j -> ∀ a, a < o.length -> ∀ b, b < o.length -> metP d i j' a b) (fun j => d.length - j) 0 ⟨Nat.zero_le _, fun i' h => absurd h (Nat.not_lt_zero _)⟩ (Nat.zero_le _) ?_ ?_
      · simp only [go_sem]
        repeat' (first | refine fork_intro (fun hb => ?_) (fun hb => ?_) | refine partB_intro (fun hb => ?_) (fun hb => ?_) | refine And.intro ?_ ?_)
        all_goals first | trivial | rfl | omega
      · rintro j ⟨hj, tj⟩
        simp only [go_sem]
        refine fork_intro (fun bj => ?_) (fun bj => ?_)
        · obtain ⟨lj, vj⟩ := row_of hp (k := j) (by omega)
          refine loop_intro (fun a : Nat => [(5, .int .i64 a), (4, .int .i64 j), (3, .int .i64 i), (1, .iptr [.ints o, .rows d])]) (fun _ => []) 0 (fun a => a <= o.length /\ ∀ a', a' < a -> ∀ b, b < o.length -> metP d i j a' b) (fun a => o.length - a) 0 ⟨Nat.zero_le _, fun i' h => absurd h (Nat.not_lt_zero _)⟩ (Nat.zero_le _) ?_ ?_
          · simp only [go_sem]
            repeat' (first | refine fork_intro (fun hb => ?_) (fun hb => ?_) | refine partB_intro (fun hb => ?_) (fun hb => ?_) | refine And.intro ?_ ?_)
            all_goals first | trivial | rfl | omega
          · rintro a ⟨ha, ta⟩
            simp only [go_sem]
            refine fork_intro (fun ba => ?_) (fun ba => ?_)
            · skip
              refine loop_intro (fun b : Nat => [(6, .int .i64 b), (5, .int .i64 a), (4, .int .i64 j), (3, .int .i64 i), (1, .iptr [.ints o, .rows d])]) (fun _ => []) 0 (fun b => b <= o.length /\ ∀ b', b' < b -> metP d i j a b') (fun b => o.length - b) 0 ⟨Nat.zero_le _, fun i' h => absurd h (Nat.not_lt_zero _)⟩ (Nat.zero_le _) ?_ ?_
              · simp only [go_sem]
                repeat' (first | refine fork_intro (fun hb => ?_) (fun hb => ?_) | refine partB_intro (fun hb => ?_) (fun hb => ?_) | refine And.intro ?_ ?_)
                all_goals first | trivial | rfl | omega
              · rintro b ⟨hb, tb⟩
                simp only [go_sem]
                refine fork_intro (fun bb => ?_) (fun bb => ?_)
                · obtain ⟨x1, x2⟩ := vi a (by omega)
                  obtain ⟨x3, x4⟩ := vi b (by omega)
                  obtain ⟨x5, x6⟩ := vj a (by omega)
                  obtain ⟨x7, x8⟩ := vj b (by omega)
                  refine ⟨by omega, by omega, by omega, by omega, by omega, by omega, by omega, by omega, by omega, by omega, fork_intro (fun hc => ?_) (fun hc => ?_)⟩
                  · have hz : metric d o.length = false := decide_eq_false (fun hz => by have := hz i (by omega) j (by omega) a (by omega) b (by omega); unfold metP at this; omega)
                    rw [hz]
                  · refine ⟨by omega, ?_⟩
                    refine LoopEnd.intro (b + 1) ⟨by omega, fun b' hb' => ?_⟩ (by omega) (Nat.zero_le _) ?_
                    · rcases Nat.lt_succ_iff_lt_or_eq.1 hb' with h | h
                      · exact tb b' h
                      · subst h; unfold metP; omega
                    · simp only [go_sem]
                      repeat' (first | refine fork_intro (fun hb => ?_) (fun hb => ?_) | refine partB_intro (fun hb => ?_) (fun hb => ?_) | refine And.intro ?_ ?_)
                      all_goals first | trivial | rfl | omega
                · refine ⟨by omega, ?_⟩
                  refine LoopEnd.intro (a + 1) ⟨by omega, fun a' ha' => ?_⟩ (by omega) (Nat.zero_le _) ?_
                  · rcases Nat.lt_succ_iff_lt_or_eq.1 ha' with h | h
                    · exact ta a' h
                    · subst h; have hq : b = o.length := by omega
                      exact hq ▸ tb
                  · simp only [go_sem]
                    repeat' (first | refine fork_intro (fun hb => ?_) (fun hb => ?_) | refine partB_intro (fun hb => ?_) (fun hb => ?_) | refine And.intro ?_ ?_)
                    all_goals first | trivial | rfl | omega
            · refine ⟨by omega, ?_⟩
              refine LoopEnd.intro (j + 1) ⟨by omega, fun j' hj' => ?_⟩ (by omega) (Nat.zero_le _) ?_
              · rcases Nat.lt_succ_iff_lt_or_eq.1 hj' with h | h
                · exact tj j' h
                · subst h; have hq : a = o.length := by omega
                  exact hq ▸ ta
              · simp only [go_sem]
                repeat' (first | refine fork_intro (fun hb => ?_) (fun hb => ?_) | refine partB_intro (fun hb => ?_) (fun hb => ?_) | refine And.intro ?_ ?_)
                all_goals first | trivial | rfl | omega
        · refine ⟨by omega, ?_⟩
          refine LoopEnd.intro (i + 1) ⟨by omega, fun i' hi' => ?_⟩ (by omega) (Nat.zero_le _) ?_
          · rcases Nat.lt_succ_iff_lt_or_eq.1 hi' with h | h
            · exact ti i' h
            · subst h; have hq : j = d.length := by omega
              exact hq ▸ tj
          · simp only [go_sem]
            repeat' (first | refine fork_intro (fun hb => ?_) (fun hb => ?_) | refine partB_intro (fun hb => ?_) (fun hb => ?_) | refine And.intro ?_ ?_)
            all_goals first | trivial | rfl | omega
    · have hz : metric d o.length = true := decide_eq_true (by rw [show d.length = i by omega]; exact (show d.length = i by omega) ▸ ti)
      rw [hz]
def t_metS : Table := [(150, pureC g_metS)]
theorem t_metS_ok : TabOK Tryz.prog t_metS := .cons Tryz.func150 (by kernel_rfl) (.pure (by intro args hp; unfold g_metS at hp ⊢; split at hp <;> first | exact hp.elim | exact metS_ok _ _ hp)) (.nil _)
attribute [go_sem] g_metS_eq t_metS
end Go.Proofs.YteefjdbdknkcjaaGreat
