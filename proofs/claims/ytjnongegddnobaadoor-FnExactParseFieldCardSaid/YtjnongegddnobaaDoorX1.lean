/- What the library's functions on texts and numbers make of their arguments: the kit's contracts, in the words of the abstract run. -/
import Derived.Test.YtjnongegddnobaaDoorPlH
import Derived.Test.YtjnongegddnobaaDoorX0
import Derived.Test.YtjnongegddnobaaDoorX1M
namespace Go.Proofs.YtjnongegddnobaaDoor
open Go.Vc
set_option maxRecDepth 100000
set_option linter.unusedSimpArgs false
set_option linter.unusedVariables false

theorem tab10 {S : Store} {w : World} (hS : StoreIn S w) : Lib.TabIs Tryd.prog w "internal/strconv.uint64pow10" .u64 Lib.pow10Tab := by
  obtain ⟨el, fr, he⟩ := hS.2 _ _ hS.1.1
  unfold Lib.TabIs World.var?
  rw [show Tryd.prog.globalNamed "internal/strconv.uint64pow10" = some 3 by kernel_rfl]
  simp only [Option.bind_some, he]
def g_itoa : List AV -> Prop × AV
  | [.int .i64 n] => (-9223372036854775808 <= n /\ n <= 9223372036854775807, .str (numB n))
  | _ => (False, .undef)
theorem g_itoa_eq (n : Int) : g_itoa [.int .i64 n] = (-9223372036854775808 <= n /\ n <= 9223372036854775807, .str (numB n)) := (rfl)
theorem itoa_ok (n : Int) (hp : -9223372036854775808 <= n /\ n <= 9223372036854775807) : SpecOK Tryd.prog 34 [.int .i64 n] (.str (numB n)) [] := by
  refine ext_ok (fun S w cargs hS hsz hargs => ?_)
  obtain ⟨v, rfl, h1⟩ := args1 hsz hargs
  obtain rfl := sees_int h1
  refine (Tryd.strconv_Itoa n hp.1 hp.2 w (tab10 hS)).mono ?_
  rintro e w' ⟨rfl, k, os, rfl⟩
  exact ⟨_, rfl, kept_grow w k os, .str _⟩
def t_itoa : Table := [(34, pureC g_itoa)]
theorem t_itoa_ok : TabOK Tryd.prog t_itoa := .cons Tryd.func34 (by kernel_rfl) (.pure (by intro args hp; unfold g_itoa at hp ⊢; split at hp <;> first | exact hp.elim | exact itoa_ok _ hp)) (.nil _)
attribute [go_sem] g_itoa_eq t_itoa
def g_cutC : List AV -> Prop × AV
  | [.str s, .str t] => (t.size = 1 /\ s.size <= 1048576, .tup [.str (frontB s (byteAt t 0)), .undef, .undef])
  | _ => (False, .undef)
theorem g_cutC_eq (s t : ByteArray) : g_cutC [.str s, .str t] = (t.size = 1 /\ s.size <= 1048576, .tup [.str (frontB s (byteAt t 0)), .undef, .undef]) := (rfl)
theorem cutC_ok (s t : ByteArray) (hp : t.size = 1 /\ s.size <= 1048576) : SpecOK Tryd.prog 42 [.str s, .str t] (.tup [.str (frontB s (byteAt t 0)), .undef, .undef]) [] := by
  refine ext_ok (fun S w cargs hS hsz hargs => ?_)
  obtain ⟨v, u, rfl, h1, h2⟩ := args2 hsz hargs
  obtain rfl := sees_strv h1
  obtain rfl := sees_strv h2
  obtain ⟨hp1, hp2⟩ := hp
  obtain ⟨c, rfl⟩ : ∃ c, t = ⟨#[c]⟩ := by
    obtain ⟨⟨l⟩⟩ := t
    match l, hp1 with
    | [c], _ => exact ⟨c, rfl⟩
  obtain ⟨m, hm⟩ := maxLen0 hS
  refine (Tryd.strings_Cut s ⟨#[c]⟩ m w (by omega) hm).mono ?_
  rintro e w' ⟨rfl, k, rfl⟩
  refine ⟨_, rfl, kept_drew w k, .tup _ _ rfl (fun j x v hx hv => ?_)⟩
  have ef : (⟨(Lib.cut s.data.toList (⟨#[c]⟩ : ByteArray).data.toList).1.toArray⟩ : ByteArray) = frontB s (byteAt ⟨#[c]⟩ 0) := by
    show (⟨(Lib.cut s.data.toList [c]).1.toArray⟩ : ByteArray) = frontB s c
    unfold Lib.cut frontB
    rw [Lib.index_one]
    split <;> rfl
  rcases j with _ | _ | _ | j <;> simp at hx hv
  · subst hx; subst hv
    have ef' : (⟨(Lib.cut s.data.toList [c]).1.toArray⟩ : ByteArray) = frontB s (byteAt ⟨#[c]⟩ 0) := ef
    rw [ef']
    exact .str _
  · subst hx; exact .undef _
  · subst hx; exact .undef _
def t_cutC : Table := [(42, pureC g_cutC)]
theorem t_cutC_ok : TabOK Tryd.prog t_cutC := .cons Tryd.func42 (by kernel_rfl) (.pure (by intro args hp; unfold g_cutC at hp ⊢; split at hp <;> first | exact hp.elim | exact cutC_ok _ _ hp)) (.nil _)
attribute [go_sem] g_cutC_eq t_cutC
end Go.Proofs.YtjnongegddnobaaDoor
