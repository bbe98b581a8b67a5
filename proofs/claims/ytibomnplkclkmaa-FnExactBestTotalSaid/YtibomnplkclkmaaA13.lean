/- Copies of fields, joined fields: both packages say the same. -/
import Derived.Test.YtibomnplkclkmaaA6
import Derived.Test.YtibomnplkclkmaaPlF
namespace Go.Proofs.Ytibomnplkclkmaa
open Go.Vc
set_option maxRecDepth 100000
set_option linter.unusedSimpArgs false
set_option linter.unusedVariables false

def joinB (o : List Int) (d : List (List Int)) (o1 : List Int) (d1 : List (List Int)) : Bool := good o d && (good o1 d1 && (decide (o = o1) && decide ((d.length : Int) + d1.length ≤ 7)))

def g_ownI : List AV → Prop × AV × Heap
  | [.ints xs] => (xs.length ≤ 1048576000, .sl 0, [(0, .arr (.ints xs))])
  | _ => (False, .undef, [])
theorem g_ownI_eq (xs : List Int) : g_ownI [.ints xs] = (xs.length ≤ 1048576000, .sl 0, [(0, .arr (.ints xs))]) := (rfl)
theorem ownI_ok (xs : List Int) (hp : xs.length ≤ 1048576000) : SpecOK Try.prog 71 [.ints xs] (.sl 0) [(0, .arr (.ints xs))] := by
  refine fun_ok (C := []) (hint := hintX [3, 5] [] 0 [] [] [] []) (TabOK.nil _) mixed Try.func71 rfl (by kernel_rfl) rfl ?_
  show codeA _ _ _ _ _ _ _ _
  simp only [go_sem, cond_true, cond_false, ↓reduceIte, Nat.reduceEqDiff, Nat.reduceBEq, List.map_cons, List.map_nil, List.append_nil, List.cons_append, List.nil_append, true_and, and_true, Nat.reduceAdd, Nat.reduceSub, Nat.zero_add, Nat.add_zero, List.drop_zero, List.drop_succ_cons, List.take_succ_cons, List.take_zero, List.all_cons, List.all_nil, Bool.and_true, Bool.true_and, Bool.and_false, Bool.false_and, Bool.or_true, Bool.true_or, Bool.or_false, Bool.false_or, Bool.not_false, Bool.not_true, Option.getD_some, List.length_cons, List.length_nil, Nat.reduceLeDiff, Option.isSome_none, Option.isSome_some, Nat.reduceMul, eq_self, exists_const, List.toList_toArray, partB_true, partB_false, RK_i64, RK_u64, RK_u8, LoopEnd, List.getElem?_cons_zero, List.getElem?_cons_succ, List.getElem?_nil, Nat.sub_zero, Nat.le_refl, Int.toNat_natCast, List.set_cons_zero, List.set_cons_succ, List.getD_cons_zero, List.getD_cons_succ, Nat.sub_self, Option.map_some, Option.map_none, List.length_append, Nat.reduceLT, Try.results71]
  repeat' (first | refine fork_intro (fun hb => ?_) (fun hb => ?_) | refine partB_intro (fun hb => ?_) (fun hb => ?_) | refine And.intro ?_ ?_)
  all_goals first | exact True.intro | omega | with_reducible rfl | exact congrArg (AV.int _) (by omega)
def t_ownI : Table := [(71, ownC g_ownI)]
theorem t_ownI_ok : TabOK Try.prog t_ownI := .cons Try.func71 (by kernel_rfl) (.own (by intro args hp; unfold g_ownI at hp ⊢; split at hp <;> first | exact hp.elim | exact ⟨ownI_ok _ hp, rfl⟩)) (.nil _)
attribute [go_sem] g_ownI_eq t_ownI
end Go.Proofs.Ytibomnplkclkmaa
