/- The abstract machine, fifteenth part: the moves of a walk. Conditions: none. -/
import Derived.Test.YtabmgfchkcmcmaaDoorYAmM
set_option linter.unusedVariables false
set_option linter.unusedSimpArgs false
namespace Go.Proofs.YtabmgfchkcmcmaaDoor
open Go Go.RowKit

def Kont (K A : AS → Prop) : Prop := ∀ s, A s → K s
theorem Kont.go {K A : AS → Prop} {s : AS} (h : Kont K A) (ha : A s) : K s := h s ha
section
variable {X : Cx} {P : Program} {Q : Exit → AS → Prop} {s s' : AS} {K : AS → Prop}
theorem W_seq {x y : Code} (h : ∀ K : AS → Prop, Kont K (fun s => J X P y Q s) → J X P x (athen K Q) s) : J X P (.seq x y) Q s := J_seq h
theorem athen_normal {n : AS → Prop} : athen n Q .normal s = n s := (rfl)
theorem athen_exit {n : AS → Prop} {i : Nat} : athen n Q (.exit i) s = Q (.exit i) s := (rfl)
theorem athen_ret {n : AS → Prop} : athen n Q .ret s = Q .ret s := (rfl)
theorem ablock_normal {i : Nat} : ablock i Q .normal s = Q .normal s := (rfl)
theorem ablock_ret {i : Nat} : ablock i Q .ret s = Q .ret s := (rfl)
theorem ablock_exit {i j : Nat} : ablock i Q (.exit j) s = if j = i then Q .normal s else Q (.exit j) s := (rfl)
theorem W_cond {c : Operand} {x y : Code} (t : Bool) (hc : s.ev c = .f (.v (.bool t))) (h1 : t = true → J X P x Q s) (h2 : t = false → J X P y Q s) : J X P (.cond c x y) Q s := J_cond hc h1 h2
theorem W_true {c : Operand} {x y : Code} (hc : s.ev c = .f (.v (.bool true))) (h1 : J X P x Q s) : J X P (.cond c x y) Q s := J_cond hc (fun _ => h1) (fun h => by cases h)
theorem W_false {c : Operand} {x y : Code} (hc : s.ev c = .f (.v (.bool false))) (h1 : J X P y Q s) : J X P (.cond c x y) Q s := J_cond hc (fun h => by cases h) (fun _ => h1)
def Jc (v : AV) (X : Cx) (P : Program) (c : Operand) (x y : Code) (Q : Exit → AS → Prop) (s : AS) : Prop := s.ev c = v → J X P (.cond c x y) Q s
theorem J_c {c : Operand} {x y : Code} (h : Jc (s.ev c) X P c x y Q s) : J X P (.cond c x y) Q s := h rfl
theorem Jc_true {c : Operand} {x y : Code} (h : J X P x Q s) : Jc (.f (.v (.bool true))) X P c x y Q s := fun hc => W_true hc h
theorem Jc_false {c : Operand} {x y : Code} (h : J X P y Q s) : Jc (.f (.v (.bool false))) X P c x y Q s := fun hc => W_false hc h
theorem Jc_if {c : Operand} {x y : Code} {b : Bool} (h1 : b = true → J X P x Q s) (h2 : b = false → J X P y Q s) : Jc (.f (.v (.bool b))) X P c x y Q s := fun hc => W_cond b hc h1 h2
def WeakL (N : Nat) : List AV → List AV → Prop
  | [], [] => True
  | a :: l, b :: m => (b = .any ∨ (b = a ∧ b.lt0 N = true)) ∧ WeakL N l m
  | _, _ => False
def objLt (N : Nat) (o : AO) : Prop := ∀ e ∈ o.es, e.lt0 N = true
def WeakH (N : Nat) : AH → AH → Prop
  | _, [] => True
  | a :: l, b :: m => (match b with | none => True | some o => a = some o ∧ objLt N o) ∧ WeakH N l m
  | _, _ => False
def WeakLr (g : Nat → Nat) (N : Nat) : List AV → List AV → Prop
  | [], [] => True
  | a :: l, b :: m => (b = .any ∨ (b.ren g = a ∧ b.lt0 N = true)) ∧ WeakLr g N l m
  | _, _ => False
def WeakHr (g : Nat → Nat) (N : Nat) (H : AH) : Nat → AH → Prop
  | _, [] => True
  | i, b :: m => (match b with | none => True | some o => H[g i]? = some (some ⟨o.e, o.sz, o.es.map (AV.ren g)⟩) ∧ objLt N o) ∧ WeakHr g N H (i + 1) m
def nth (σ : List Nat) (r : Nat) : Nat := σ.getD r 0
theorem weakLr_nil (g : Nat → Nat) (N : Nat) : WeakLr g N [] [] = True := (rfl)
theorem weakLr_any (g : Nat → Nat) (N : Nat) (a : AV) (l m : List AV) : WeakLr g N (a :: l) (.any :: m) = WeakLr g N l m := propext ⟨fun h => h.2, fun h => ⟨.inl rfl, h⟩⟩
theorem weakLr_f (g : Nat → Nat) (N : Nat) (a : AV) (b : FV) (l m : List AV) : WeakLr g N (a :: l) (.f b :: m) = (AV.f b = a ∧ WeakLr g N l m) := propext ⟨fun h => ⟨(h.1.resolve_left (by simp)).1, h.2⟩, fun h => ⟨.inr ⟨h.1, rfl⟩, h.2⟩⟩
theorem weakLr_own (g : Nat → Nat) (N r sz o k : Nat) (a : AV) (l m : List AV) : WeakLr g N (a :: l) (.own r sz o k :: m) = (AV.own (g r) sz o k = a ∧ r < N ∧ WeakLr g N l m) := propext ⟨fun h => ⟨(h.1.resolve_left (by simp)).1, of_decide_eq_true (h.1.resolve_left (by simp)).2, h.2⟩, fun h => ⟨.inr ⟨h.1, decide_eq_true h.2.1⟩, h.2.2⟩⟩
theorem weakLr_ptr (g : Nat → Nat) (N r sz i j : Nat) (a : AV) (l m : List AV) : WeakLr g N (a :: l) (.ptr r sz i j :: m) = (AV.ptr (g r) sz i j = a ∧ r < N ∧ WeakLr g N l m) := propext ⟨fun h => ⟨(h.1.resolve_left (by simp)).1, of_decide_eq_true (h.1.resolve_left (by simp)).2, h.2⟩, fun h => ⟨.inr ⟨h.1, decide_eq_true h.2.1⟩, h.2.2⟩⟩
theorem weakHr_nil (g : Nat → Nat) (N i : Nat) (H : AH) : WeakHr g N H i [] = True := (rfl)
theorem weakHr_none (g : Nat → Nat) (N i : Nat) (H m : AH) : WeakHr g N H i (none :: m) = WeakHr g N H (i + 1) m := propext ⟨fun h => h.2, fun h => ⟨trivial, h⟩⟩
theorem weakHr_some (g : Nat → Nat) (N i : Nat) (o : AO) (H m : AH) : WeakHr g N H i (some o :: m) = ((H[g i]? = some (some ⟨o.e, o.sz, o.es.map (AV.ren g)⟩) ∧ objLt N o) ∧ WeakHr g N H (i + 1) m) := (rfl)
theorem ren_f (g : Nat → Nat) (x : FV) : (AV.f x).ren g = .f x := (rfl)
theorem ren_own (g : Nat → Nat) (r sz o k : Nat) : (AV.own r sz o k).ren g = .own (g r) sz o k := (rfl)
theorem ren_ptr (g : Nat → Nat) (r sz i j : Nat) : (AV.ptr r sz i j).ren g = .ptr (g r) sz i j := (rfl)
theorem map_ren_f (g : Nat → Nat) (l : List FV) : (l.map AV.f).map (AV.ren g) = l.map AV.f := by rw [List.map_map]; rfl
theorem nth_zero (a : Nat) (l : List Nat) : nth (a :: l) 0 = a := (rfl)
theorem nth_succ (a i : Nat) (l : List Nat) : nth (a :: l) (i + 1) = nth l i := (rfl)
theorem lt0_f (N : Nat) (x : FV) : (AV.f x).lt0 N = true := (rfl)
theorem weakL_nil (N : Nat) : WeakL N [] [] = True := (rfl)
theorem weakL_any (N : Nat) (a : AV) (l m : List AV) : WeakL N (a :: l) (.any :: m) = WeakL N l m := propext ⟨fun h => h.2, fun h => ⟨.inl rfl, h⟩⟩
theorem weakL_f (N : Nat) (a : AV) (b : FV) (l m : List AV) : WeakL N (a :: l) (.f b :: m) = (AV.f b = a ∧ WeakL N l m) := propext ⟨fun h => ⟨(h.1.resolve_left (by simp)).1, h.2⟩, fun h => ⟨.inr ⟨h.1, rfl⟩, h.2⟩⟩
theorem weakL_own (N r sz o k : Nat) (a : AV) (l m : List AV) : WeakL N (a :: l) (.own r sz o k :: m) = (AV.own r sz o k = a ∧ r < N ∧ WeakL N l m) := propext ⟨fun h => ⟨(h.1.resolve_left (by simp)).1, of_decide_eq_true (h.1.resolve_left (by simp)).2, h.2⟩, fun h => ⟨.inr ⟨h.1, decide_eq_true h.2.1⟩, h.2.2⟩⟩
theorem weakL_ptr (N r sz i j : Nat) (a : AV) (l m : List AV) : WeakL N (a :: l) (.ptr r sz i j :: m) = (AV.ptr r sz i j = a ∧ r < N ∧ WeakL N l m) := propext ⟨fun h => ⟨(h.1.resolve_left (by simp)).1, of_decide_eq_true (h.1.resolve_left (by simp)).2, h.2⟩, fun h => ⟨.inr ⟨h.1, decide_eq_true h.2.1⟩, h.2.2⟩⟩
theorem weakL_sl (N r sz : Nat) (fs : List FV) (a : AV) (l m : List AV) (h : r < N) : WeakL N (a :: l) (sl r sz fs :: m) = (sl r sz fs = a ∧ WeakL N l m) := by
  have e : (sl r sz fs).lt0 N = true := by cases fs <;> first | rfl | exact decide_eq_true h
  refine propext ⟨fun h => ⟨?_, h.2⟩, fun h => ⟨.inr ⟨h.1, e⟩, h.2⟩⟩
  rcases h.1 with h | h
  · cases fs <;> cases h
  · exact h.1
theorem weakH_nil (N : Nat) (l : AH) : WeakH N l [] = True := by unfold WeakH; rfl
theorem weakH_none (N : Nat) (a : Option AO) (l m : AH) : WeakH N (a :: l) (none :: m) = WeakH N l m := propext ⟨fun h => h.2, fun h => ⟨trivial, h⟩⟩
theorem weakH_some (N : Nat) (a : Option AO) (o : AO) (l m : AH) : WeakH N (a :: l) (some o :: m) = ((a = some o ∧ objLt N o) ∧ WeakH N l m) := (rfl)
theorem weakH_ob (N : Nat) (e : TypeId) (sz : Nat) (fs : List FV) (a : Option AO) (l m : AH) : WeakH N (a :: l) (ob e sz fs :: m) = ((fs = [] ∨ a = ob e sz fs) ∧ WeakH N l m) := by
  cases fs with
  | nil => exact propext ⟨fun h => ⟨.inl rfl, h.2⟩, fun h => ⟨trivial, h.2⟩⟩
  | cons b fs => exact propext ⟨fun h => ⟨.inr h.1.1, h.2⟩, fun h => ⟨⟨h.1.resolve_left (by simp), fun x hx => by obtain ⟨y, _, rfl⟩ := List.mem_map.1 (show x ∈ List.map AV.f (b :: fs) from hx); rfl⟩, h.2⟩⟩
theorem objLt_f (N : Nat) (e : TypeId) (sz : Nat) (es : List FV) : objLt N ⟨e, sz, es.map .f⟩ = True := propext ⟨fun _ => trivial, fun _ x hx => by obtain ⟨y, _, rfl⟩ := List.mem_map.1 hx; rfl⟩
theorem objLt_nil (N : Nat) (e : TypeId) (sz : Nat) : objLt N ⟨e, sz, []⟩ = True := propext ⟨fun _ => trivial, fun _ x hx => by cases hx⟩
theorem objLt_cons (N : Nat) (e : TypeId) (sz : Nat) (a : AV) (l : List AV) : objLt N ⟨e, sz, a :: l⟩ = (a.lt0 N = true ∧ objLt N ⟨e, sz, l⟩) := propext ⟨fun h => ⟨h a (by simp), fun x hx => h x (by simp [show x ∈ l from hx])⟩, fun h x hx => by
  rcases List.mem_cons.1 (show x ∈ a :: l from hx) with rfl | hx
  · exact h.1
  · exact h.2 x hx⟩
theorem objLt_rep (N : Nat) (e : TypeId) (sz n : Nat) (x : FV) : objLt N ⟨e, sz, List.replicate n (.f x)⟩ = True := propext ⟨fun _ => trivial, fun _ y hy => by rw [List.eq_of_mem_replicate hy]; rfl⟩
theorem objLt_app (N : Nat) (e : TypeId) (sz : Nat) (a b : List AV) : objLt N ⟨e, sz, a ++ b⟩ = (objLt N ⟨e, sz, a⟩ ∧ objLt N ⟨e, sz, b⟩) := propext ⟨fun h => ⟨fun x hx => h x (List.mem_append.2 (.inl hx)), fun x hx => h x (List.mem_append.2 (.inr hx))⟩, fun h x hx => by
  rcases List.mem_append.1 (show x ∈ a ++ b from hx) with hx | hx
  · exact h.1 x hx
  · exact h.2 x hx⟩
theorem FrzL.fs {H : List (Option AO)} (ds : List FV) : FrzL H (ds.map .f) ds := ⟨by simp, fun j x y hx hy => by
  rw [List.getElem?_map, hy] at hx; cases hx; exact .f _⟩
def msk (ws : List Nat) (l : List AV) : List AV := ws.foldl (fun l i => l.set i .any) l
def sets (up : List (Nat × AV)) (l : List AV) : List AV := up.foldl (fun l p => l.set p.1 p.2) l
theorem msk_nil (l : List AV) : msk [] l = l := (rfl)
theorem msk_cons (i : Nat) (ws : List Nat) (l : List AV) : msk (i :: ws) l = msk ws (l.set i .any) := (rfl)
theorem sets_nil (l : List AV) : sets [] l = l := (rfl)
theorem sets_cons (p : Nat × AV) (up : List (Nat × AV)) (l : List AV) : sets (p :: up) l = sets up (l.set p.1 p.2) := (rfl)
theorem call_f {f : FuncId} {xs : List AV} {d : Option Tmp} {zs : List FV} {r : FV} (hg : Good P f zs r) (hx : xs = zs.map .f) (hK : K (s.put d (.f r))) : acall P f xs s d K := by
  refine .inl ⟨zs, r, ⟨by rw [hx]; simp, fun j x y h1 h2 => ?_⟩, hg, .inl fun x hxm => ?_, hK⟩
  · rw [hx, List.getElem?_map, h2] at h1
    cases h1; exact .f y
  · rw [hx] at hxm
    obtain ⟨y, _, rfl⟩ := List.mem_map.1 hxm
    exact ⟨y, rfl⟩
theorem callQ_f {f : FuncId} {xs : List AV} {H : AH} {k : AV → Prop} {zs : List FV} {r : FV} (hg : Good P f zs r) (hx : xs = zs.map .f) (hK : k (.f r)) : acallQ P f xs H k := by
  refine ⟨zs, r, ⟨by rw [hx]; simp, fun j x y h1 h2 => ?_⟩, hg, .inl fun x hxm => ?_, hK⟩
  · rw [hx, List.getElem?_map, h2] at h1
    cases h1; exact .f y
  · rw [hx] at hxm
    obtain ⟨y, _, rfl⟩ := List.mem_map.1 hxm
    exact ⟨y, rfl⟩
end
theorem wrap_in {n : Int} (h0 : -9223372036854775808 ≤ n) (h1 : n ≤ 9223372036854775807) : IntKind.i64.wrap n = n := by rw [IntKind.wrap_i64]; omega
attribute [go_sem] athen_normal athen_exit athen_ret ablock_normal ablock_ret ablock_exit wrap_in msk_nil msk_cons sets_nil sets_cons weakL_nil weakL_any weakL_f weakL_own weakL_ptr
attribute [go_sem] weakH_nil weakH_none weakH_ob weakH_some weakL_sl objLt_f objLt_nil objLt_cons objLt_rep objLt_app lt0_f weakLr_nil weakLr_any weakLr_f weakLr_own weakLr_ptr
attribute [go_sem] weakHr_nil weakHr_none weakHr_some ren_f ren_own ren_ptr map_ren_f nth_zero nth_succ
end Go.Proofs.YtabmgfchkcmcmaaDoor
