/- Fractions compared as they are told. Conditions: none. -/
import Derived.Test.YtabmgfchkcmcmaaDoorZFrW
import Derived.Laws.StructEq
import Derived.Laws.Strings
set_option linter.unusedVariables false
set_option linter.unusedSimpArgs false
namespace Go.Proofs.YtabmgfchkcmcmaaDoor
open Go Go.RowKit
def eqR (g : Bool) (n d : ByteArray) (g' : Bool) (n' d' : ByteArray) : Bool := (g == g') && (decide (n = n') && decide (d = d'))
theorem toList_eq_iff {a b : ByteArray} : (a.toList == b.toList) = decide (a = b) := by
  have : (a.toList = b.toList) ↔ a = b := by
    rw [ByteArray.toList_eq, ByteArray.toList_eq]
    exact ⟨fun h => by cases a; cases b; simp_all [Array.toList_inj], fun h => by rw [h]⟩
  by_cases h : a = b
  · subst h; simp
  · rw [decide_eq_false h]; simpa using fun h' => h (this.1 h')
set_option maxRecDepth 100000 in
theorem run_eq3 (w : World) (g g' : Bool) (n d n' d' : ByteArray) : (Op.equalIn 10000 55 (.agg #[.bool g, .string n, .string d]) (.agg #[.bool g', .string n', .string d'])).run Tryd.prog w = .ok (eqR g n d g' n' d') w := by
  rw [run_equalIn_agg w 9999 _ _ _ (by kernel_rfl) (by kernel_rfl)]
  unfold Program.fieldsOf
  rw [Tryd.underlying55]
  have p0 : ∀ (a b c : Value), (part 4 #[a, b, c] 0).run Tryd.prog w = .ok a w := fun a b c => by kernel_rfl
  have p1 : ∀ (a b c : Value), (part 53 #[a, b, c] 1).run Tryd.prog w = .ok b w := fun a b c => by kernel_rfl
  have p2 : ∀ (a b c : Value), (part 53 #[a, b, c] 2).run Tryd.prog w = .ok c w := fun a b c => by kernel_rfl
  have q0 := run_equalIn_bool' w 9998 4 g g' Tryd.underlying4
  have q1 := run_equalIn_string w 9998 53 n n' Tryd.underlying53
  have q2 := run_equalIn_string w 9998 53 d d' Tryd.underlying53
  rw [toList_eq_iff] at q1 q2
  rw [show (9998 + 1 : Nat) = 9999 from rfl] at q0 q1 q2
  have h1 : ("Neg" : String) ≠ "_" := by decide
  have h2 : ("Num" : String) ≠ "_" := by decide
  have h3 : ("Den" : String) ≠ "_" := by decide
  show (Op.eqFields 9999 _ _ [_, _, _]).run _ _ = _
  unfold eqR
  simp only [Op.eqFields, h1, h2, h3, ne_eq, not_false_eq_true, if_true, Sem.run_bind, p0, p1, p2, Result.andThen_ok, q0, q1, q2]
  cases hg : (g == g') with
  | false => simp
  | true =>
    cases hn : decide (n = n') with
    | false => simp [hn, p1, q1]
    | true =>
      cases hd : decide (d = d') with
      | false => simp [hn, hd, p1, q1, p2, q2]
      | true => simp [hn, hd, p1, q1, p2, q2]
theorem eqR_fr (a b : Rat) : eqR (cg a) (cn a) (cd a) (cg b) (cn b) (cd b) = decide (a = b) := by
  by_cases h : a = b
  · subst h; simp [eqR]
  · rw [decide_eq_false h]
    unfold eqR
    by_cases h1 : cg a = cg b
    · by_cases h2 : cn a = cn b
      · by_cases h3 : cd a = cd b
        · exact absurd (by rw [← rv_c a, ← rv_c b, h1, h2, h3]) h
        · simp [h3]
      · simp [h2]
    · have : (cg a == cg b) = false := by simpa using h1
      rw [this]; rfl
section
variable {k : AV → Prop} {X Y : Operand}
@[go_sem] theorem bin_eqR {g g' : Bool} {n d n' d' : ByteArray} : aBin Tryd.prog .eql 55 X Y (.f (frR g n d)) (.f (frR g' n' d')) k = k (.f (.v (.bool (eqR g n d g' n' d')))) :=
  bin_run (U := .agg #[.bool g, .string n, .string d]) (V := .agg #[.bool g', .string n', .string d']) rfl rfl (fun _ _ h => by cases h) (fun _ h => by cases h) fun w => by
    rw [Sem.run_bind, run_eqGuard_agg w .eql 55 X Y _ _ (by kernel_rfl), Result.andThen_ok, run_eql_struct, run_eq3]; rfl
@[go_sem] theorem bin_neR {g g' : Bool} {n d n' d' : ByteArray} : aBin Tryd.prog .neq 55 X Y (.f (frR g n d)) (.f (frR g' n' d')) k = k (.f (.v (.bool (!eqR g n d g' n' d')))) :=
  bin_run (U := .agg #[.bool g, .string n, .string d]) (V := .agg #[.bool g', .string n', .string d']) rfl rfl (fun _ _ h => by cases h) (fun _ h => by cases h) fun w => by
    rw [Sem.run_bind, run_eqGuard_agg w .neq 55 X Y _ _ (by kernel_rfl), Result.andThen_ok, run_neq_struct, run_eq3]; rfl
@[go_sem] theorem bin_eqf {a b : Rat} : aBin Tryd.prog .eql 55 X Y (.f (fr a)) (.f (fr b)) k = k (.f (.v (.bool (decide (a = b))))) := by
  rw [fr_frR, fr_frR, bin_eqR, eqR_fr]
@[go_sem] theorem bin_nef {a b : Rat} : aBin Tryd.prog .neq 55 X Y (.f (fr a)) (.f (fr b)) k = k (.f (.v (.bool (!decide (a = b))))) := by
  rw [fr_frR, fr_frR, bin_neR, eqR_fr]
end
end Go.Proofs.YtabmgfchkcmcmaaDoor
