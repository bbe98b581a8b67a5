/- Numbers read from texts: both packages say the same. -/
import Derived.Test.YtjnongegddnobaaDoorX2
namespace Go.Proofs.YtjnongegddnobaaDoor
open Go.Vc Go.RowKit
set_option maxRecDepth 100000
set_option linter.unusedSimpArgs false
set_option linter.unusedVariables false

def atN (s : ByteArray) : Int := match Lib.atoiAll s.data.toList with
  | .ok n => n
  | .range => Lib.atoiSat s.data.toList
  | _ => 0
def atE (s : ByteArray) : AV := match Lib.atoiAll s.data.toList with
  | .ok _ => .nilI
  | _ => .errI
theorem errs0 {S : Store} {w : World} (hS : StoreIn S w) : ∃ t p, w.var? Tryd.prog "strconv.ErrSyntax" = some #[.iface t p] := by
  obtain ⟨t, a, hx⟩ := hS.1.2.2.1
  obtain ⟨el, fr, he⟩ := hS.2 _ _ hx
  refine ⟨t, .pointer (some a), ?_⟩
  unfold World.var?
  rw [show Tryd.prog.globalNamed "strconv.ErrSyntax" = some 0 by kernel_rfl]
  simp only [Option.bind_some, he]
theorem errs1 {S : Store} {w : World} (hS : StoreIn S w) : ∃ t p, w.var? Tryd.prog "strconv.ErrRange" = some #[.iface t p] := by
  obtain ⟨t, a, hx⟩ := hS.1.2.2.2
  obtain ⟨el, fr, he⟩ := hS.2 _ _ hx
  refine ⟨t, .pointer (some a), ?_⟩
  unfold World.var?
  rw [show Tryd.prog.globalNamed "strconv.ErrRange" = some 1 by kernel_rfl]
  simp only [Option.bind_some, he]
theorem kept_below {w w' : World} (hb : Below w.heap.size w w') : Kept (w.heap.size <= ·) w w' := ⟨hb.os, hb.tape, hb.output, hb.size, fun b hlt _ => hb.block b hlt, fun d => False.elim d⟩
theorem sees_pair {S : Store} {x y : AV} {u v : Value} (h : Sees S x u) (k : Sees S y v) : Sees S (.tup [x, y]) (.tuple #[u, v]) :=
  .tup _ _ rfl (fun j a b hx hv => by
    rcases j with _ | _ | j <;> simp at hx hv
    · subst hx; subst hv; exact h
    · subst hx; subst hv; exact k)
theorem v_subu8 (x y : Int) : arithV .sub (.int .u8 x) (.int .u8 y) = .int .u8 (x - y) := (rfl)
theorem p_subu8 (P : Program) (t : TypeId) (x y : Int) : arithP P t .sub (.int .u8 x) (.int .u8 y) = (0 <= x - y /\ x - y <= 255) := by rw [<- RK_u8]; show (_ /\ _) = _; simp
theorem pow10_le {k : Nat} (h : k <= 5) : (10 : Int) ^ k <= 100000 := by
  rcases k with _ | _ | _ | _ | _ | _ | k <;> first | omega | decide
theorem pow10_le6 {k : Nat} (h : k <= 6) : (10 : Int) ^ k <= 1000000 := by
  rcases k with _ | _ | _ | _ | _ | _ | _ | k <;> first | omega | decide
theorem okN_no {s : ByteArray} (h : ∀ n, -999999 <= n -> n <= 999999 -> numB n = s -> False) : okN s = false := by
  cases e : okN s with
  | false => rfl
  | true =>
    obtain ⟨n, h0, h1, h2, _⟩ := okN_inv e
    exact (h n h0 h1 h2).elim
def g_atoiC : List AV -> Prop × AV
  | [.str s] => (s.size <= 1048576, .tup [.int .i64 (atN s), atE s])
  | _ => (False, .undef)
theorem g_atoiC_eq (s : ByteArray) : g_atoiC [.str s] = (s.size <= 1048576, .tup [.int .i64 (atN s), atE s]) := (rfl)
theorem atoiC_ok (s : ByteArray) (hp : s.size <= 1048576) : SpecOK Tryd.prog 36 [.str s] (.tup [.int .i64 (atN s), atE s]) [] := by
  refine ext_ok (fun S w cargs hS hsz hargs => ?_)
  obtain ⟨v, rfl, h1⟩ := args1 hsz hargs
  obtain rfl := sees_strv h1
  unfold atN atE
  cases h : Lib.atoiAll s.data.toList
  · rename_i n
    refine (Tryd.strconv_Atoi_ok s (by omega) n h w).mono ?_
    rintro e w' ⟨rfl, hw⟩
    refine ⟨_, rfl, ?_, sees_pair (.int _ _) .nilI⟩
    rcases hw with rfl | ⟨t, rfl⟩
    · exact .refl _ _
    · unfold Lib.bytesWorld
      refine ⟨rfl, rfl, rfl, ?_, fun b hlt _ => ?_, fun d => False.elim d⟩
      · unfold World.freeze; simp
      · unfold World.freeze
        show (Array.modify _ _ _)[b]? = _
        rw [Array.getElem?_modify, if_neg (by show w.heap.size ≠ b; omega)]
        exact Below.heap_alloc _ _ _ hlt
  · obtain ⟨t, p, hv⟩ := errs0 hS
    refine (Tryd.strconv_Atoi_syntax_var s (by omega) h t p w hv).mono ?_
    rintro e w' ⟨N, rfl, _, _, hb⟩
    exact ⟨_, rfl, kept_below hb, sees_pair (.int _ _) (.errI _ _)⟩
  · obtain ⟨t, p, hv⟩ := errs1 hS
    refine (Tryd.strconv_Atoi_range_var s (by omega) h t p w hv).mono ?_
    rintro e w' ⟨N, rfl, _, _, hb⟩
    exact ⟨_, rfl, kept_below hb, sees_pair (.int _ _) (.errI _ _)⟩
def t_atoiC : Table := [(36, pureC g_atoiC)]
theorem t_atoiC_ok : TabOK Tryd.prog t_atoiC := .cons Tryd.func36 (by kernel_rfl) (.pure (by intro args hp; unfold g_atoiC at hp ⊢; split at hp <;> first | exact hp.elim | exact atoiC_ok _ hp)) (.nil _)
attribute [go_sem] g_atoiC_eq t_atoiC
def g_parseI : List AV -> Prop × AV
  | [.str s] => (s.size <= 1048576, .tup [.int .i64 (bif okN s then valN s else 0), .bool (okN s)])
  | _ => (False, .undef)
theorem g_parseI_eq (s : ByteArray) : g_parseI [.str s] = (s.size <= 1048576, .tup [.int .i64 (bif okN s then valN s else 0), .bool (okN s)]) := (rfl)
theorem parseI_ok (s : ByteArray) (hp : s.size <= 1048576) : SpecOK Tryd.prog 13 [.str s] (.tup [.int .i64 (bif okN s then valN s else 0), .bool (okN s)]) [] := by
  refine fun_ok (C := t_atoiC ++ t_itoa) (hint := hintX [] [] 0 [] [] [] []) ((t_atoiC_ok).append t_itoa_ok) mixed Tryd.func13 rfl (by kernel_rfl) rfl ?_
  show codeA _ _ _ _ _ _ _ _
  simp only [go_sem, Tryd.results13]
  have hI : isIf Tryd.prog 51 := (show Tryd.prog.underlying 51 = some (.interface (Tryd.prog.methodsAt 51)) by kernel_rfl)
  simp only [beqL]
  refine ⟨hp, ?_⟩
  cases h : Lib.atoiAll s.data.toList
  · rename_i n
    have e : atE s = .nilI := by unfold atE; rw [h]
    have en : atN s = n := by unfold atN; rw [h]
    have eo : okN s = (decide (-999999 <= n /\ n <= 999999) && decide (numB n = s)) := by unfold okN; rw [h]
    have ev : valN s = n := by unfold valN; rw [h]
    rw [e, en, eo, ev]
    refine ⟨hI, partB_intro (fun _ => ?_) (fun hb => by cases hb)⟩
    refine fork_intro (fun h1 => ?_) (fun h1 => ?_)
    · rw [decide_eq_false (show ¬ (-999999 <= n /\ n <= 999999) by omega)]; exact ⟨rfl, rfl⟩
    · refine fork_intro (fun h2 => ?_) (fun h2 => ?_)
      · rw [decide_eq_false (show ¬ (-999999 <= n /\ n <= 999999) by omega)]; exact ⟨rfl, rfl⟩
      · rw [decide_eq_true (show -999999 <= n /\ n <= 999999 by omega), Bool.true_and]
        refine ⟨⟨by omega, by omega⟩, partB_intro (fun h3 => ?_) (fun h3 => ?_)⟩
        · rw [h3]; exact ⟨rfl, rfl⟩
        · rw [h3]; exact ⟨rfl, rfl⟩
  all_goals
    have e : atE s = .errI := by unfold atE; rw [h]
    have eo : okN s = false := by unfold okN; rw [h]
    rw [e, eo]
    refine ⟨hI, partB_intro (fun hb => by cases hb) (fun _ => ⟨rfl, rfl⟩)⟩
def t_parseI : Table := [(13, pureC g_parseI)]
theorem t_parseI_ok : TabOK Tryd.prog t_parseI := .cons Tryd.func13 (by kernel_rfl) (.pure (by intro args hp; unfold g_parseI at hp ⊢; split at hp <;> first | exact hp.elim | exact parseI_ok _ hp)) (.nil _)
attribute [go_sem] g_parseI_eq t_parseI
def g_readS : List AV -> Prop × AV
  | [.str s] => (s.size <= 1048576, .tup [.int .i64 (bif okN s then valN s else 0), .bool (okN s)])
  | _ => (False, .undef)
theorem g_readS_eq (s : ByteArray) : g_readS [.str s] = (s.size <= 1048576, .tup [.int .i64 (bif okN s then valN s else 0), .bool (okN s)]) := (rfl)
theorem readS_ok (s : ByteArray) (hp : s.size <= 1048576) : SpecOK Tryd.prog 35 [.str s] (.tup [.int .i64 (bif okN s then valN s else 0), .bool (okN s)]) [] := by
  refine fun_ok (C := t_l1In ++ t_numS) (hint := hintX [] [] 0 [] [] [] []) ((t_l1In_ok).append t_numS_ok) mixed Tryd.func35 rfl (by kernel_rfl) rfl ?_
  show codeA _ _ _ _ _ _ _ _
  simp only [go_sem, Tryd.results35]
  refine fork_intro (fun hs1 => ?_) (fun hs1 => ?_)
  · refine ⟨by omega, fork_intro (fun hs2 => ?_) (fun hs2 => ?_)⟩
    · have ea : absB s = s.extract (Int.toNat 1) s.size := if_pos ⟨by omega, UInt8.toNat_inj.1 (by rw [show (45 : UInt8).toNat = 45 from rfl]; omega)⟩
      refine ⟨by omega, ?_⟩
      refine fork_intro (fun h6 => ?_) (fun h6 => ?_)
      · refine loop_intro (fun k : Nat => [(4, .str (s.extract (Int.toNat 1) s.size)), (5, .int .i64 (foldD (s.extract (Int.toNat 1) s.size) k)), (6, .int .i64 k), (0, .str s)]) (fun _ => []) 0 (fun k => k <= ((s.extract (Int.toNat 1) s.size)).size /\ ∀ j : Nat, j < k -> 48 <= (byteAt (s.extract (Int.toNat 1) s.size) (j : Int)).toNat /\ (byteAt (s.extract (Int.toNat 1) s.size) (j : Int)).toNat <= 57) (fun k => ((s.extract (Int.toNat 1) s.size)).size - k) 0 ⟨Nat.zero_le _, fun j hj => absurd hj (Nat.not_lt_zero _)⟩ (Nat.zero_le _) ?_ ?_
        · simp only [go_sem]
          repeat' (first | refine fork_intro (fun hb => ?_) (fun hb => ?_) | refine partB_intro (fun hb => ?_) (fun hb => ?_) | refine And.intro ?_ ?_)
          all_goals first | exact True.intro | omega | with_reducible rfl | exact congrArg (AV.int _) (by omega) | (first | rfl)
        · rintro k ⟨hk, hd⟩
          have hfb := foldD_bd k hd
          simp only [go_sem, beqL, v_subu8, p_subu8]
          refine fork_intro (fun hc => ?_) (fun hc => ?_)
          · have hbt := (byteAt (s.extract (Int.toNat 1) s.size) (k : Int)).toNat_lt
            have hp10 : (10 : Int) ^ k <= 100000 := pow10_le (by omega)
            have hno : ¬ (48 <= (byteAt (s.extract (Int.toNat 1) s.size) (k : Int)).toNat /\ (byteAt (s.extract (Int.toNat 1) s.size) (k : Int)).toNat <= 57) -> okN s = false := fun hb => okN_no (fun n h0 h1 e => by
              obtain ⟨_, _, g3, _, _⟩ := num_abs h0 h1 e
              rw [ea] at g3
              exact hb (g3 k (by omega)))
            refine ⟨by omega, fork_intro (fun h1 => ?_) (fun h1 => ?_)⟩
            · rw [hno (by omega)]; exact ⟨rfl, rfl⟩
            · refine ⟨by omega, fork_intro (fun h2 => ?_) (fun h2 => ?_)⟩
              · rw [hno (by omega)]; exact ⟨rfl, rfl⟩
              · have hd' : ∀ j : Nat, j < k + 1 -> 48 <= (byteAt (s.extract (Int.toNat 1) s.size) (j : Int)).toNat /\ (byteAt (s.extract (Int.toNat 1) s.size) (j : Int)).toNat <= 57 := fun j hj => by
                  by_cases ej : j = k
                  · rw [ej]; omega
                  · exact hd j (by omega)
                have ef : foldD (s.extract (Int.toNat 1) s.size) (k + 1) = 10 * foldD (s.extract (Int.toNat 1) s.size) k + ((byteAt (s.extract (Int.toNat 1) s.size) (k : Int)).toNat - 48) := rfl
                repeat' (first | refine fork_intro (fun hb => ?_) (fun hb => ?_) | refine partB_intro (fun hb => ?_) (fun hb => ?_) | refine And.intro ?_ ?_)
                all_goals first | exact True.intro | omega | with_reducible rfl | exact congrArg (AV.int _) (by omega) | (refine LoopEnd.intro (k + 1) (by first | omega | (first | exact ⟨by omega, hd'⟩)) (by first | omega | (dsimp only; omega)) (by omega) ?_; simp only [go_sem]; (repeat' (first | refine fork_intro (fun hb => ?_) (fun hb => ?_) | refine partB_intro (fun hb => ?_) (fun hb => ?_) | refine And.intro ?_ ?_)); all_goals first | exact True.intro | omega | with_reducible rfl | exact congrArg (AV.int _) (by omega) | (first | rfl | rw [ef])) | (first | rfl | rw [ef])
          · have hks : k = ((s.extract (Int.toNat 1) s.size)).size := by omega
            subst hks
            have hp10 : (10 : Int) ^ ((s.extract (Int.toNat 1) s.size)).size <= 1000000 := pow10_le6 (by omega)
            refine fork_intro (fun h1 => ?_) (fun h1 => ?_)
            · have hyes : ∀ n, -999999 <= n -> n <= 999999 -> numB n = s -> n = - foldD (s.extract (Int.toNat 1) s.size) ((s.extract (Int.toNat 1) s.size)).size := fun n h0 h1' e => by
                obtain ⟨_, _, _, g4, g5⟩ := num_abs h0 h1' e
                rw [ea] at g4 g5
                have := g5.1 (by omega)
                omega
              refine ⟨by omega, by omega, fork_intro (fun h2 => ?_) (fun h2 => ?_)⟩
              · obtain ⟨q1, q2⟩ := okN_of (s := s) (n := - foldD (s.extract (Int.toNat 1) s.size) ((s.extract (Int.toNat 1) s.size)).size) (by omega) (by omega) (by rw [<- Int.zero_sub]; exact h2)
                rw [q1, q2]
                exact ⟨congrArg (AV.int _) (by rw [cond_true]; omega), rfl⟩
              · rw [okN_no (fun n h0 h1' e => h2 (by rw [Int.zero_sub, <- hyes n h0 h1' e]; exact e))]
                exact ⟨rfl, rfl⟩
            · have hyes : ∀ n, -999999 <= n -> n <= 999999 -> numB n = s -> n = foldD (s.extract (Int.toNat 1) s.size) ((s.extract (Int.toNat 1) s.size)).size := fun n h0 h1' e => by
                obtain ⟨_, _, _, g4, g5⟩ := num_abs h0 h1' e
                rw [ea] at g4 g5
                have : ¬ n < 0 := fun hn => h1 (by have := g5.2 hn; omega)
                omega
              refine ⟨by omega, fork_intro (fun h2 => ?_) (fun h2 => ?_)⟩
              · obtain ⟨q1, q2⟩ := okN_of (s := s) (n := foldD (s.extract (Int.toNat 1) s.size) ((s.extract (Int.toNat 1) s.size)).size) (by omega) (by omega) h2
                rw [q1, q2]
                exact ⟨rfl, rfl⟩
              · rw [okN_no (fun n h0 h1' e => h2 (by rw [<- hyes n h0 h1' e]; exact e))]
                exact ⟨rfl, rfl⟩
      · rw [okN_no (fun n h0 h1 e => by
          obtain ⟨g1, g2, _, _, _⟩ := num_abs h0 h1 e
          rw [ea] at g1 g2
          exact h6 ⟨by omega, by omega⟩)]
        exact ⟨rfl, rfl⟩
    · have ea : absB s = s := if_neg (fun h => hs2 (by rw [h.2]; rfl))
      refine fork_intro (fun h6 => ?_) (fun h6 => ?_)
      · refine loop_intro (fun k : Nat => [(4, .str s), (5, .int .i64 (foldD s k)), (6, .int .i64 k), (0, .str s)]) (fun _ => []) 0 (fun k => k <= (s).size /\ ∀ j : Nat, j < k -> 48 <= (byteAt s (j : Int)).toNat /\ (byteAt s (j : Int)).toNat <= 57) (fun k => (s).size - k) 0 ⟨Nat.zero_le _, fun j hj => absurd hj (Nat.not_lt_zero _)⟩ (Nat.zero_le _) ?_ ?_
        · simp only [go_sem]
          repeat' (first | refine fork_intro (fun hb => ?_) (fun hb => ?_) | refine partB_intro (fun hb => ?_) (fun hb => ?_) | refine And.intro ?_ ?_)
          all_goals first | exact True.intro | omega | with_reducible rfl | exact congrArg (AV.int _) (by omega) | (first | rfl)
        · rintro k ⟨hk, hd⟩
          have hfb := foldD_bd k hd
          simp only [go_sem, beqL, v_subu8, p_subu8]
          refine fork_intro (fun hc => ?_) (fun hc => ?_)
          · have hbt := (byteAt s (k : Int)).toNat_lt
            have hp10 : (10 : Int) ^ k <= 100000 := pow10_le (by omega)
            have hno : ¬ (48 <= (byteAt s (k : Int)).toNat /\ (byteAt s (k : Int)).toNat <= 57) -> okN s = false := fun hb => okN_no (fun n h0 h1 e => by
              obtain ⟨_, _, g3, _, _⟩ := num_abs h0 h1 e
              rw [ea] at g3
              exact hb (g3 k (by omega)))
            refine ⟨by omega, fork_intro (fun h1 => ?_) (fun h1 => ?_)⟩
            · rw [hno (by omega)]; exact ⟨rfl, rfl⟩
            · refine ⟨by omega, fork_intro (fun h2 => ?_) (fun h2 => ?_)⟩
              · rw [hno (by omega)]; exact ⟨rfl, rfl⟩
              · have hd' : ∀ j : Nat, j < k + 1 -> 48 <= (byteAt s (j : Int)).toNat /\ (byteAt s (j : Int)).toNat <= 57 := fun j hj => by
                  by_cases ej : j = k
                  · rw [ej]; omega
                  · exact hd j (by omega)
                have ef : foldD s (k + 1) = 10 * foldD s k + ((byteAt s (k : Int)).toNat - 48) := rfl
                repeat' (first | refine fork_intro (fun hb => ?_) (fun hb => ?_) | refine partB_intro (fun hb => ?_) (fun hb => ?_) | refine And.intro ?_ ?_)
                all_goals first | exact True.intro | omega | with_reducible rfl | exact congrArg (AV.int _) (by omega) | (refine LoopEnd.intro (k + 1) (by first | omega | (first | exact ⟨by omega, hd'⟩)) (by first | omega | (dsimp only; omega)) (by omega) ?_; simp only [go_sem]; (repeat' (first | refine fork_intro (fun hb => ?_) (fun hb => ?_) | refine partB_intro (fun hb => ?_) (fun hb => ?_) | refine And.intro ?_ ?_)); all_goals first | exact True.intro | omega | with_reducible rfl | exact congrArg (AV.int _) (by omega) | (first | rfl | rw [ef])) | (first | rfl | rw [ef])
          · have hks : k = (s).size := by omega
            subst hks
            have hp10 : (10 : Int) ^ (s).size <= 1000000 := pow10_le6 (by omega)
            refine fork_intro (fun h1 => ?_) (fun h1 => ?_)
            · have hyes : ∀ n, -999999 <= n -> n <= 999999 -> numB n = s -> n = - foldD s (s).size := fun n h0 h1' e => by
                obtain ⟨_, _, _, g4, g5⟩ := num_abs h0 h1' e
                rw [ea] at g4 g5
                have := g5.1 (by omega)
                omega
              refine ⟨by omega, by omega, fork_intro (fun h2 => ?_) (fun h2 => ?_)⟩
              · obtain ⟨q1, q2⟩ := okN_of (s := s) (n := - foldD s (s).size) (by omega) (by omega) (by rw [<- Int.zero_sub]; exact h2)
                rw [q1, q2]
                exact ⟨congrArg (AV.int _) (by rw [cond_true]; omega), rfl⟩
              · rw [okN_no (fun n h0 h1' e => h2 (by rw [Int.zero_sub, <- hyes n h0 h1' e]; exact e))]
                exact ⟨rfl, rfl⟩
            · have hyes : ∀ n, -999999 <= n -> n <= 999999 -> numB n = s -> n = foldD s (s).size := fun n h0 h1' e => by
                obtain ⟨_, _, _, g4, g5⟩ := num_abs h0 h1' e
                rw [ea] at g4 g5
                have : ¬ n < 0 := fun hn => h1 (by have := g5.2 hn; omega)
                omega
              refine ⟨by omega, fork_intro (fun h2 => ?_) (fun h2 => ?_)⟩
              · obtain ⟨q1, q2⟩ := okN_of (s := s) (n := foldD s (s).size) (by omega) (by omega) h2
                rw [q1, q2]
                exact ⟨rfl, rfl⟩
              · rw [okN_no (fun n h0 h1' e => h2 (by rw [<- hyes n h0 h1' e]; exact e))]
                exact ⟨rfl, rfl⟩
      · rw [okN_no (fun n h0 h1 e => by
          obtain ⟨g1, g2, _, _, _⟩ := num_abs h0 h1 e
          rw [ea] at g1 g2
          exact h6 ⟨by omega, by omega⟩)]
        exact ⟨rfl, rfl⟩
  · have ea : absB s = s := if_neg (fun h => hs1 (by omega))
    refine fork_intro (fun h6 => ?_) (fun h6 => ?_)
    · refine loop_intro (fun k : Nat => [(4, .str s), (5, .int .i64 (foldD s k)), (6, .int .i64 k), (0, .str s)]) (fun _ => []) 0 (fun k => k <= (s).size /\ ∀ j : Nat, j < k -> 48 <= (byteAt s (j : Int)).toNat /\ (byteAt s (j : Int)).toNat <= 57) (fun k => (s).size - k) 0 ⟨Nat.zero_le _, fun j hj => absurd hj (Nat.not_lt_zero _)⟩ (Nat.zero_le _) ?_ ?_
      · simp only [go_sem]
        repeat' (first | refine fork_intro (fun hb => ?_) (fun hb => ?_) | refine partB_intro (fun hb => ?_) (fun hb => ?_) | refine And.intro ?_ ?_)
        all_goals first | exact True.intro | omega | with_reducible rfl | exact congrArg (AV.int _) (by omega) | (first | rfl)
      · rintro k ⟨hk, hd⟩
        have hfb := foldD_bd k hd
        simp only [go_sem, beqL, v_subu8, p_subu8]
        refine fork_intro (fun hc => ?_) (fun hc => ?_)
        · have hbt := (byteAt s (k : Int)).toNat_lt
          have hp10 : (10 : Int) ^ k <= 100000 := pow10_le (by omega)
          have hno : ¬ (48 <= (byteAt s (k : Int)).toNat /\ (byteAt s (k : Int)).toNat <= 57) -> okN s = false := fun hb => okN_no (fun n h0 h1 e => by
            obtain ⟨_, _, g3, _, _⟩ := num_abs h0 h1 e
            rw [ea] at g3
            exact hb (g3 k (by omega)))
          refine ⟨by omega, fork_intro (fun h1 => ?_) (fun h1 => ?_)⟩
          · rw [hno (by omega)]; exact ⟨rfl, rfl⟩
          · refine ⟨by omega, fork_intro (fun h2 => ?_) (fun h2 => ?_)⟩
            · rw [hno (by omega)]; exact ⟨rfl, rfl⟩
            · have hd' : ∀ j : Nat, j < k + 1 -> 48 <= (byteAt s (j : Int)).toNat /\ (byteAt s (j : Int)).toNat <= 57 := fun j hj => by
                by_cases ej : j = k
                · rw [ej]; omega
                · exact hd j (by omega)
              have ef : foldD s (k + 1) = 10 * foldD s k + ((byteAt s (k : Int)).toNat - 48) := rfl
              repeat' (first | refine fork_intro (fun hb => ?_) (fun hb => ?_) | refine partB_intro (fun hb => ?_) (fun hb => ?_) | refine And.intro ?_ ?_)
              all_goals first | exact True.intro | omega | with_reducible rfl | exact congrArg (AV.int _) (by omega) | (refine LoopEnd.intro (k + 1) (by first | omega | (first | exact ⟨by omega, hd'⟩)) (by first | omega | (dsimp only; omega)) (by omega) ?_; simp only [go_sem]; (repeat' (first | refine fork_intro (fun hb => ?_) (fun hb => ?_) | refine partB_intro (fun hb => ?_) (fun hb => ?_) | refine And.intro ?_ ?_)); all_goals first | exact True.intro | omega | with_reducible rfl | exact congrArg (AV.int _) (by omega) | (first | rfl | rw [ef])) | (first | rfl | rw [ef])
        · have hks : k = (s).size := by omega
          subst hks
          have hp10 : (10 : Int) ^ (s).size <= 1000000 := pow10_le6 (by omega)
          refine fork_intro (fun h1 => ?_) (fun h1 => ?_)
          · have hyes : ∀ n, -999999 <= n -> n <= 999999 -> numB n = s -> n = - foldD s (s).size := fun n h0 h1' e => by
              obtain ⟨_, _, _, g4, g5⟩ := num_abs h0 h1' e
              rw [ea] at g4 g5
              have := g5.1 (by omega)
              omega
            refine ⟨by omega, by omega, fork_intro (fun h2 => ?_) (fun h2 => ?_)⟩
            · obtain ⟨q1, q2⟩ := okN_of (s := s) (n := - foldD s (s).size) (by omega) (by omega) (by rw [<- Int.zero_sub]; exact h2)
              rw [q1, q2]
              exact ⟨congrArg (AV.int _) (by rw [cond_true]; omega), rfl⟩
            · rw [okN_no (fun n h0 h1' e => h2 (by rw [Int.zero_sub, <- hyes n h0 h1' e]; exact e))]
              exact ⟨rfl, rfl⟩
          · have hyes : ∀ n, -999999 <= n -> n <= 999999 -> numB n = s -> n = foldD s (s).size := fun n h0 h1' e => by
              obtain ⟨_, _, _, g4, g5⟩ := num_abs h0 h1' e
              rw [ea] at g4 g5
              have : ¬ n < 0 := fun hn => h1 (by have := g5.2 hn; omega)
              omega
            refine ⟨by omega, fork_intro (fun h2 => ?_) (fun h2 => ?_)⟩
            · obtain ⟨q1, q2⟩ := okN_of (s := s) (n := foldD s (s).size) (by omega) (by omega) h2
              rw [q1, q2]
              exact ⟨rfl, rfl⟩
            · rw [okN_no (fun n h0 h1' e => h2 (by rw [<- hyes n h0 h1' e]; exact e))]
              exact ⟨rfl, rfl⟩
    · rw [okN_no (fun n h0 h1 e => by
        obtain ⟨g1, g2, _, _, _⟩ := num_abs h0 h1 e
        rw [ea] at g1 g2
        exact h6 ⟨by omega, by omega⟩)]
      exact ⟨rfl, rfl⟩
def t_readS : Table := [(35, pureC g_readS)]
theorem t_readS_ok : TabOK Tryd.prog t_readS := .cons Tryd.func35 (by kernel_rfl) (.pure (by intro args hp; unfold g_readS at hp ⊢; split at hp <;> first | exact hp.elim | exact readS_ok _ hp)) (.nil _)
attribute [go_sem] g_readS_eq t_readS
def g_parseS : List AV -> Prop × AV
  | [.str s] => (s.size <= 1048576, .tup [.int .i64 (bif okN s then valN s else 0), .bool (okN s)])
  | _ => (False, .undef)
theorem g_parseS_eq (s : ByteArray) : g_parseS [.str s] = (s.size <= 1048576, .tup [.int .i64 (bif okN s then valN s else 0), .bool (okN s)]) := (rfl)
theorem parseS_ok (s : ByteArray) (hp : s.size <= 1048576) : SpecOK Tryd.prog 12 [.str s] (.tup [.int .i64 (bif okN s then valN s else 0), .bool (okN s)]) [] := by
  refine fun_ok (C := t_readS) (hint := hintX [] [] 0 [] [] [] []) (t_readS_ok) mixed Tryd.func12 rfl (by kernel_rfl) rfl ?_
  show codeA _ _ _ _ _ _ _ _
  simp only [go_sem, Tryd.results12]
  first | exact hp | exact ⟨hp, rfl⟩
def t_parseS : Table := [(12, pureC g_parseS)]
theorem t_parseS_ok : TabOK Tryd.prog t_parseS := .cons Tryd.func12 (by kernel_rfl) (.pure (by intro args hp; unfold g_parseS at hp ⊢; split at hp <;> first | exact hp.elim | exact parseS_ok _ hp)) (.nil _)
attribute [go_sem] g_parseS_eq t_parseS
end Go.Proofs.YtjnongegddnobaaDoor
