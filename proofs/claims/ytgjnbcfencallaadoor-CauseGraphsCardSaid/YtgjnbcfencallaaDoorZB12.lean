/- What is apart, the document's way: walked. Conditions: what slices may hold. -/
import Derived.Test.YtgjnbcfencallaaDoorZB11
set_option linter.unusedVariables false
set_option linter.unusedSimpArgs false
namespace Go.Proofs.YtgjnbcfencallaaDoor
open Go Go.RowKit
abbrev opnP (P:List Nat) (n y z k:Nat) (l:List Nat):Bool:=opnF (paO P) (anO P n z) z.testBit y.testBit n k l
theorem mem_els' {s v:Nat} (hs:s<256):decide (v∈els s)=s.testBit v:=by
 rw [Bool.eq_iff_iff,decide_eq_true_eq,els_mem]
 exact ⟨fun h=>h.2,fun h=>⟨bits_lt8 hs h,h⟩⟩
set_option maxRecDepth 100000 in
set_option maxHeartbeats 8000000 in
theorem open_w {n y z : Nat} {P : List Nat} (hg : GP n P) {rk : Nat → Nat} (hrk : ∀ u v, paO P u v = true → rk u < rk v) (hy : y < 256) (hz : ∀ v, z.testBit v = true → v < n) :
    ∀ (k : Nat) (l : List Nat), l.Nodup → (∀ x ∈ l, x < n) → l ≠ [] → n + 1 ≤ l.length + k →
    Good Tryd.prog 44 [.fz 1 (gvs P), .fz 1 (Ns l.reverse), .fz 1 (Ns (els y)), .fz 1 (Ns (els z))] (Bo (opnP P n y z k l)) := by
  have hl := hg.len
  have hn8 := hg.n8
  have hz8 : z < 256 := lt256 fun v hv => by have := hz v hv; omega
  have hgl : (gvs P).length = n := by rw [gvs_len, hl]
  have hyl := els_len (s := y)
  have hzl := els_len (s := z)
  intro k
  induction k with
  | zero =>
    intro l hnd hlt _ hk
    have := nodup_lt hnd hlt
    omega
  | succ k ih =>
    intro l hnd hlt hne hk
    obtain ⟨t, r, rfl⟩ := List.exists_cons_of_ne_nil hne
    have ht : t < n := hlt t (by simp)
    have hln : r.length + 1 ≤ n := nodup_lt hnd hlt
    have hwl : (Ns (t :: r).reverse).length = r.length + 1 := by rw [Ns_len, List.length_reverse, List.length_cons]
    have hla : (Ns (t :: r).reverse)[r.length]? = some (I (t : Int)) := by
      rw [Ns_get (by rw [List.length_reverse, List.length_cons]; omega)]
      simp [List.getD_eq_getElem?_getD]
    have i0 := rinN_w t (els y) (by omega) (by omega)
    rw [mem_els' hy] at i0
    have gt := gvs_get (P := P) (v := t) (by omega)
    obtain ⟨b, hb⟩ : ∃ b, b = opnP P n y z (k + 1) (t :: r) := ⟨_, rfl⟩
    rw [← hb]
    have hb2 : b = (y.testBit t || (List.range n).any fun v => !decide (v ∈ t :: r) && (paO P v t || paO P t v) && okT (paO P) (anO P n z) z.testBit r t v && opnP P n y z k (v :: t :: r)) := hb
    have hc1 : ((r.length + 1 : Nat) : Int) - 1 = (r.length : Int) := by omega
    refine good_of Tryd.func44 rfl (by kernel_rfl) fun X hO hrd => ?_; rw [Tryd.ntmps44, Tryd.results44]; simp only [ast0, List.map_cons, List.map_nil, List.length_cons, List.length_nil, Nat.reduceAdd, Nat.reduceSub, List.replicate_succ, List.replicate_zero, List.cons_append, List.nil_append]
    (repeat (with_reducible first | refine W_seq fun K hK => ?_ | refine J_region ?_  | (refine Kont.go (by assumption) ?_) | (simp (config := { maxSteps := 3000000 }) (disch := omega) only [go_sem, ↓reduceIte, hwl, hla, hc1])))
    (first | refine call_f (i0) rfl ?_ | refine callQ_f (i0) rfl ?_ | refine callHK_f (i0) rfl ?_ | refine callH_f (i0) rfl ?_)
    cases hyt : y.testBit t with
    | true =>
      rw [hyt, Bool.true_or] at hb2
      (repeat (with_reducible first | refine W_seq fun K hK => ?_ | refine J_ret ?_ | refine J_region ?_  | refine J_c ?_ | refine Jc_true ?_ | (refine Kont.go (by assumption) ?_) | (simp (config := { maxSteps := 3000000 }) (disch := omega) only [go_sem])))
      rw [hb2]; exact Frz.f _
    | false =>
      rw [hyt, Bool.false_or] at hb2
      (repeat (with_reducible first | refine W_seq fun K hK => ?_ | refine J_block ?_ | refine J_skip ?_ | refine J_region ?_  | refine J_c ?_ | refine Jc_false ?_ | (refine Kont.go (by assumption) ?_) | (simp (config := { maxSteps := 3000000 }) (disch := omega) only [go_sem])))
      refine W_loop [8, 11, 12, 13, 14, 15, 16, 17, 28, 29, 30, 31, 32, 33, 34, 35, 36, 37, 38, 39, 40, 41, 42, 43, 44, 45, 46, 47, 48, 49, 50, 51, 52, 53, 54, 55, 56, 57, 58, 59, 60, 61, 62, 63, 64, 65, 66, 67, 68, 69, 70, 71, 72, 73, 74, 75, 76, 77, 78, 79, 80, 81, 82, 83, 84, 85, 86, 87, 88, 89, 90, 91, 92, 93, 94, 95, 96] (fun x : Nat => [(11, .f (I x))]) (fun x : Nat => []) (fun x : Nat => x ≤ n ∧ ∀ j, j < x → (!decide (j ∈ t :: r) && (paO P j t || paO P t j) && okT (paO P) (anO P n z) z.testBit r t j && opnP P n y z k (j :: t :: r)) = false) (fun x : Nat => n - x) (0) (⟨Nat.zero_le _, fun j h => by omega⟩) (by refine weak_of ?_ ?_ <;> simp (disch := omega) only [go_sem] <;> first | rfl | exact ⟨rfl, rfl⟩ | exact Or.inl rfl | exact ⟨Or.inl rfl, Or.inl rfl⟩ | trivial | assumption | omega | (symm; assumption) | ((repeat' apply And.intro) <;> first | rfl | omega | trivial | exact .inl rfl | exact .inr ⟨rfl, rfl⟩ | exact .inr rfl | (right; symm; assumption) | (symm; assumption) | assumption)) ?_
      rintro v ⟨hv, hp⟩
      simp only [go_sem]
      (repeat (with_reducible first | refine W_seq fun K hK => ?_ | refine J_region ?_  | refine J_c ?_ | (refine Kont.go (by assumption) ?_) | (simp (config := { maxSteps := 3000000 }) (disch := omega) only [go_sem, hgl])))
      refine Jc_if (fun hvn => ?_) (fun hvn => ?_) <;> try simp only [decide_eq_true_eq, decide_eq_false_iff_not] at hvn
      · have gv := gvs_get (P := P) (v := v) (by omega)
        have i1 := rinN_w v (t :: r).reverse (by omega) (by rw [List.length_reverse, List.length_cons]; omega)
        have em : decide (v ∈ (t :: r).reverse) = decide (v ∈ t :: r) := by simp only [List.mem_reverse]
        rw [em] at i1
        have i2 := rinN_w v (els (P.getD t 0)) (by omega) (by have := els_len (s := P.getD t 0); omega)
        have i3 := rinN_w t (els (P.getD v 0)) (by omega) (by have := els_len (s := P.getD v 0); omega)
        rw [mem_els hg] at i2 i3
        (repeat (with_reducible first | refine W_seq fun K hK => ?_ | refine J_block ?_ | refine J_skip ?_ | refine J_region ?_  | (refine Kont.go (by assumption) ?_) | (simp (config := { maxSteps := 3000000 }) (disch := omega) only [go_sem])))
        (first | refine call_f (i1) rfl ?_ | refine callQ_f (i1) rfl ?_ | refine callHK_f (i1) rfl ?_ | refine callH_f (i1) rfl ?_)
        (repeat (with_reducible first | refine W_seq fun K hK => ?_ | refine J_region ?_  | (refine Kont.go (by assumption) ?_) | (simp (config := { maxSteps := 3000000 }) (disch := omega) only [go_sem, ↓reduceIte, gt])))
        (first | refine call_f (i2) rfl ?_ | refine callQ_f (i2) rfl ?_ | refine callHK_f (i2) rfl ?_ | refine callH_f (i2) rfl ?_)
        (repeat (with_reducible first | refine W_seq fun K hK => ?_ | refine J_region ?_  | (refine Kont.go (by assumption) ?_) | (simp (config := { maxSteps := 3000000 }) (disch := omega) only [go_sem, ↓reduceIte, gv])))
        (first | refine call_f (i3) rfl ?_ | refine callQ_f (i3) rfl ?_ | refine callHK_f (i3) rfl ?_ | refine callH_f (i3) rfl ?_)
        by_cases hm : v ∈ t :: r
        · have hmd : decide (v ∈ t :: r) = true := decide_eq_true hm
          (repeat (with_reducible first | refine W_seq fun K hK => ?_ | refine J_exit ?_ | refine J_region ?_  | refine J_c ?_ | refine Jc_true ?_ | (refine Kont.go (by assumption) ?_) | (simp (config := { maxSteps := 3000000 }) (disch := omega) only [go_sem, ↓reduceIte, hmd])))
          refine ⟨v + 1, ⟨by omega, upto_next (p := fun j => (!decide (j ∈ t :: r) && (paO P j t || paO P t j) && okT (paO P) (anO P n z) z.testBit r t j && opnP P n y z k (j :: t :: r)) = false) hp (by rw [hmd]; rfl)⟩, by omega, weak_of ?_ ?_⟩ <;> (try simp (disch := omega) only [go_sem]) <;> (try first | done | omega | rfl | exact ⟨rfl, rfl⟩ | trivial)
        have hmd : decide (v ∈ t :: r) = false := decide_eq_false hm
        by_cases hup : (paO P v t || paO P t v) = false
        · obtain ⟨h1, h2⟩ := Bool.or_eq_false_iff.1 hup
          (repeat (with_reducible first | refine W_seq fun K hK => ?_ | refine J_exit ?_ | refine J_region ?_  | refine J_c ?_ | refine Jc_true ?_ | (refine Kont.go (by assumption) ?_) | (simp (config := { maxSteps := 3000000 }) (disch := omega) only [go_sem, ↓reduceIte, hmd, h1, h2])))
          refine ⟨v + 1, ⟨by omega, upto_next (p := fun j => (!decide (j ∈ t :: r) && (paO P j t || paO P t j) && okT (paO P) (anO P n z) z.testBit r t j && opnP P n y z k (j :: t :: r)) = false) hp (by rw [hmd, hup]; rfl)⟩, by omega, weak_of ?_ ?_⟩ <;> (try simp (disch := omega) only [go_sem]) <;> (try first | done | omega | rfl | exact ⟨rfl, rfl⟩ | trivial)
        have hup' : (paO P v t || paO P t v) = true := by
          rcases Bool.eq_false_or_eq_true (paO P v t || paO P t v) with h | h
          · exact h
          · exact absurd h hup
        have hst : (!decide (v ∈ t :: r) && (paO P v t || paO P t v) && okT (paO P) (anO P n z) z.testBit r t v && opnP P n y z k (v :: t :: r)) = (okT (paO P) (anO P n z) z.testBit r t v && opnP P n y z k (v :: t :: r)) := by rw [hmd, hup']; rfl
        have hnd2 : (v :: t :: r).Nodup := List.nodup_cons.2 ⟨hm, hnd⟩
        have hlt2 : ∀ x ∈ v :: t :: r, x < n := fun x hx => by
          rcases List.mem_cons.1 hx with rfl | hx
          · exact hvn
          · exact hlt x hx
        have hc := ih (v :: t :: r) hnd2 hlt2 (by simp) (by simp only [List.length_cons] at hk ⊢; omega)
        have hpu : (paO P v t = true ∧ (True ∧ True) = True) ∨ (paO P v t = false ∧ paO P t v = true) := by
          cases h : paO P v t
          · rw [h] at hup'; exact .inr ⟨rfl, hup'⟩
          · exact .inl ⟨rfl, and_self _⟩
        have htk : List.take (r.length + 1) ((Ns (t :: r).reverse).map AV.f) ++ [AV.f (.v (.int .i64 v))] = (Ns (v :: t :: r).reverse).map .f := by
          have e1 : (v :: t :: r).reverse = (t :: r).reverse ++ [v] := by simp
          rw [List.take_of_length_le (by rw [List.length_map, hwl]; omega), e1, ← Ns_snoc, List.map_append]; rfl
        have hn2 : r.length + 2 = (Ns (v :: t :: r).reverse).length := by rw [Ns_len, List.length_reverse]; rfl
        have hnx : (okT (paO P) (anO P n z) z.testBit r t v && opnP P n y z k (v :: t :: r)) = false → ∀ j, j < v + 1 → (!decide (j ∈ t :: r) && (paO P j t || paO P t j) && okT (paO P) (anO P n z) z.testBit r t j && opnP P n y z k (j :: t :: r)) = false := fun h => upto_next (p := fun j => (!decide (j ∈ t :: r) && (paO P j t || paO P t j) && okT (paO P) (anO P n z) z.testBit r t j && opnP P n y z k (j :: t :: r)) = false) hp (by rw [hst]; exact h)
        have hbt : (okT (paO P) (anO P n z) z.testBit r t v && opnP P n y z k (v :: t :: r)) = true → b = true := fun h => by
          rw [hb2]
          exact List.any_eq_true.2 ⟨v, List.mem_range.2 hvn, by rw [hst]; exact h⟩
        rcases hpu with ⟨h1, h2⟩ | ⟨h1, h2⟩ <;> cases r with
        | nil =>
          have hone : ¬ (1 : Int) < ((1 : Nat) : Int) := by decide
          (repeat (first | (with_reducible first | refine W_seq fun K hK => ?_ | refine J_skip ?_ | refine J_region ?_  | refine aApp_old ?_ | refine J_c ?_ | refine Jc_false ?_ | (refine Kont.go (by assumption) ?_) | (simp (config := { maxSteps := 3000000 }) (disch := omega) only [go_sem, ↓reduceIte, Nat.reduceAdd, Nat.reduceLeDiff, hmd, h2, h1, Nat.reduceMul, Nat.le_refl, true_and, and_self, hwl, hone])) | refine And.intro (by omega) ?_))
          refine call_fl hc (.v _) (FrzL.cons (.f _) (FrzL.cons (Frz.own0 (congrArg (fun x => some (some (AO.mk 3 1 x))) htk) hn2) (FrzL.cons (.f _) (FrzL.cons (.f _) (FrzL.nil _))))) ?_
          cases hop : opnP P n y z k [v, t] with
          | true =>
            (repeat (with_reducible first | refine W_seq fun K hK => ?_ | refine J_ret ?_ | refine J_region ?_  | refine J_c ?_ | refine Jc_true ?_ | (refine Kont.go (by assumption) ?_) | (simp (config := { maxSteps := 3000000 }) (disch := omega) only [go_sem])))
            rw [hbt (by rw [hop]; rfl)]; exact Frz.f _
          | false =>
            (repeat (with_reducible first | refine W_seq fun K hK => ?_ | refine J_skip ?_ | refine J_region ?_  | refine J_c ?_ | refine Jc_false ?_ | (refine Kont.go (by assumption) ?_) | (simp (config := { maxSteps := 3000000 }) (disch := omega) only [go_sem])))
            refine ⟨v + 1, ⟨by omega, hnx (by rw [hop]; rfl)⟩, by omega, weak_of ?_ ?_⟩ <;> (try simp (disch := omega) only [go_sem]) <;> (try first | done | omega | rfl | exact ⟨rfl, rfl⟩ | trivial)
        | cons s r =>
          have hwl2 : (Ns (t :: s :: r).reverse).length = r.length + 2 := by rw [Ns_len, List.length_reverse]; rfl
          have htwo : (1 : Int) < ((r.length + 2 : Nat) : Int) := by omega
          have hc2 : ((r.length + 2 : Nat) : Int) - 2 = (r.length : Int) := by omega
          have hrl : r.length + 2 ≤ n := hln
          have hls : (Ns (t :: s :: r).reverse)[r.length]? = some (I (s : Int)) := by
            rw [Ns_get (by rw [List.length_reverse]; simp; omega)]
            simp [List.getD_eq_getElem?_getD]
          have i4 := rinN_w s (els (P.getD t 0)) (by have := hlt s (by simp); omega) (by have := els_len (s := P.getD t 0); omega)
          have i5 := rinN_w t (els z) (by omega) (by omega)
          rw [mem_els hg] at i4
          rw [mem_els' hz8] at i5
          have i6 := aboveOne_w hg hrk ht hz
          (repeat (with_reducible first | refine W_seq fun K hK => ?_ | refine J_skip ?_ | refine J_region ?_  | refine J_drawn mixed (by kernel_rfl) ?_ | refine J_c ?_ | refine Jc_true ?_ | refine Jc_false ?_ | (refine Kont.go (by assumption) ?_) | (simp (config := { maxSteps := 3000000 }) (disch := omega) only [go_sem, ↓reduceIte, hmd, h2, h1, true_and, hwl2, htwo, hc2, hls, gt])))
          (first | refine call_f (i4) rfl ?_ | refine callQ_f (i4) rfl ?_ | refine callHK_f (i4) rfl ?_ | refine callH_f (i4) rfl ?_)
          (repeat (with_reducible first | refine W_seq fun K hK => ?_ | refine J_region ?_  | (refine Kont.go (by assumption) ?_) | (simp (config := { maxSteps := 3000000 }) (disch := omega) only [go_sem])))
          (first | refine call_f (i5) rfl ?_ | refine callQ_f (i5) rfl ?_ | refine callHK_f (i5) rfl ?_ | refine callH_f (i5) rfl ?_)
          have htk3 : List.take (r.length + 2) ((Ns (t :: s :: r).reverse).map AV.f) ++ [AV.f (I (v : Int))] = (Ns (v :: t :: s :: r).reverse).map .f := htk
          have hn3 : r.length + 2 + 1 = (Ns (v :: t :: s :: r).reverse).length := by rw [Ns_len, List.length_reverse]; rfl
          cases h4 : paO P s t
          all_goals
            have hok : okT (paO P) (anO P n z) z.testBit (s :: r) t v = (if (paO P s t && paO P v t) = true then anO P n z t else !z.testBit t) := rfl
            rw [h1, h4] at hok
            (repeat (with_reducible first | refine W_seq fun K hK => ?_ | refine J_skip ?_ | refine J_region ?_  | refine J_c ?_ | refine Jc_true ?_ | refine Jc_false ?_ | (refine Kont.go (by assumption) ?_) | (simp (config := { maxSteps := 3000000 }) (disch := omega) only [go_sem])))
            (first | ((first | refine call_f (i6) rfl ?_ | refine callQ_f (i6) rfl ?_ | refine callHK_f (i6) rfl ?_ | refine callH_f (i6) rfl ?_); (repeat (with_reducible first | refine W_seq fun K hK => ?_ | refine J_region ?_  | refine J_c ?_ | (refine Kont.go (by assumption) ?_) | (simp (config := { maxSteps := 3000000 }) (disch := omega) only [go_sem]))); cases hA : anO P n z t) | cases hA : z.testBit t)
            all_goals
              rw [hA] at hok
              (first
              | (have hk0 : okT (paO P) (anO P n z) z.testBit (s :: r) t v = false := hok
                 (repeat (with_reducible first | refine J_exit ?_ | refine J_region ?_  | refine Jc_true ?_ | (refine Kont.go (by assumption) ?_) | (simp (config := { maxSteps := 3000000 }) (disch := omega) only [go_sem, ↓reduceIte])))
                 refine ⟨v + 1, ⟨by omega, hnx (by rw [hk0]; rfl)⟩, by omega, weak_of ?_ ?_⟩ <;> (try simp (disch := omega) only [go_sem]) <;> (try first | done | omega | rfl | exact ⟨rfl, rfl⟩ | trivial))
              | (have hk1 : okT (paO P) (anO P n z) z.testBit (s :: r) t v = true := hok
                 (repeat (first | (with_reducible first | refine W_seq fun K hK => ?_ | refine J_skip ?_ | refine J_region ?_  | refine aApp_old ?_ | refine Jc_false ?_ | (refine Kont.go (by assumption) ?_) | (simp (config := { maxSteps := 3000000 }) (disch := omega) only [go_sem, ↓reduceIte, Nat.reduceAdd, Nat.reduceLeDiff, hwl2, htk3])) | refine And.intro (by omega) ?_))
                 refine call_fl hc (.v _) ?_ ?_
                 · exact FrzL.cons (.f _) (FrzL.cons (Frz.own0 rfl hn3) (FrzL.cons (.f _) (FrzL.cons (.f _) (FrzL.nil _))))
                 cases hop : opnP P n y z k (v :: t :: s :: r) with
                 | true =>
                   (repeat (with_reducible first | refine W_seq fun K hK => ?_ | refine J_ret ?_ | refine J_region ?_  | refine J_c ?_ | refine Jc_true ?_ | (refine Kont.go (by assumption) ?_) | (simp (config := { maxSteps := 3000000 }) (disch := omega) only [go_sem])))
                   rw [hbt (by rw [hk1, hop]; rfl)]; exact Frz.f _
                 | false =>
                   (repeat (with_reducible first | refine W_seq fun K hK => ?_ | refine J_skip ?_ | refine J_region ?_  | refine J_c ?_ | refine Jc_false ?_ | (refine Kont.go (by assumption) ?_) | (simp (config := { maxSteps := 3000000 }) (disch := omega) only [go_sem])))
                   refine ⟨v + 1, ⟨by omega, hnx (by rw [hk1, hop]; rfl)⟩, by omega, weak_of ?_ ?_⟩ <;> (try simp (disch := omega) only [go_sem]) <;> (try first | done | omega | rfl | exact ⟨rfl, rfl⟩ | trivial)))
      · have he : v = n := by omega
        subst he
        have : b = false := by
          rw [hb2]
          refine Bool.eq_false_iff.2 fun h => ?_
          obtain ⟨x, hx, h⟩ := List.any_eq_true.1 h
          rw [hp x (List.mem_range.1 hx)] at h; cases h
        (repeat (with_reducible first | refine W_seq fun K hK => ?_ | refine J_exit ?_ | refine J_ret ?_ | refine J_region ?_  | (refine Kont.go (by assumption) ?_) | (simp (config := { maxSteps := 3000000 }) (disch := omega) only [go_sem, ↓reduceIte])))
        rw [this]; exact Frz.f _
end Go.Proofs.YtgjnbcfencallaaDoor
set_option linter.unusedVariables false
set_option linter.unusedSimpArgs false
namespace Go.Proofs.YtgjnbcfencallaaDoor
open Go Go.RowKit
def apOk (n:Nat) (LL:List (List Int)):Bool:=LL.all (risB n)&&decide LL.flatten.Nodup
theorem Is_snoc {l:List Int} {v:Int}:l.map I++[I v]=(l++[v]).map I:=by simp
set_option maxRecDepth 100000 in
set_option maxHeartbeats 8000000 in
theorem apartSets_w {n:Nat} (hn:n≤8) (LL:List (List Int)) (hLl:LL.length≤4) (hL:∀l∈LL,OkNs l):Good Tryd.prog 43 [I (n:Int),.fz 1 (LL.map ints)] (Bo (apOk n LL)):=by
 have bad:(∃i,i<LL.length∧risB n (LL.getD i [])=false)→apOk n LL=false:=by
  rintro ⟨i,hi,h⟩
  unfold apOk
  rw [Bool.and_eq_false_iff,List.all_eq_false]
  exact .inl ⟨LL[i],List.getElem_mem hi,by rw [←lget_lt LL [] hi,h];simp⟩
 have hfl:∀i,i<LL.length→(LL.take (i+1)).flatten=(LL.take i).flatten++LL.getD i []:=fun i hi=>by
  rw [List.take_add_one,List.getElem?_eq_getElem hi,List.flatten_append,lget_lt LL [] hi];simp
 have hsub:∀i,(LL.take i).flatten.Nodup∨¬LL.flatten.Nodup:=fun i=>by
  by_cases h:LL.flatten.Nodup
  ·left
   rw [←List.take_append_drop i LL,List.flatten_append] at h
   exact (List.nodup_append.1 h).1
  ·exact .inr h
 have hris:∀l,risB n l=true→l.length≤8:=fun l h=>by
  have e:=congrArg List.length (ris_els hn h)
  rw [List.length_map,Ns_len] at e
  rw [e];exact els_len
 obtain ⟨b,hb⟩:∃b,b=apOk n LL:=⟨_,rfl⟩
 rw [←hb]
 refine good_of Tryd.func43 rfl (by kernel_rfl) fun X hO hrd=>?_;rw [Tryd.ntmps43,Tryd.results43];simp only [ast0,List.map_cons,List.map_nil,List.length_cons,List.length_nil,Nat.reduceAdd,Nat.reduceSub,List.replicate_succ,List.replicate_zero,List.cons_append,List.nil_append]
 (repeat (with_reducible first|refine W_seq fun K hK=>?_|refine J_block ?_|refine J_region ?_ |(refine Kont.go (by assumption) ?_)|(simp (config:={ maxSteps:=3000000 }) (disch:=omega) only [go_sem])))
 refine J_reserve ?_
 refine W_loop [4,5,6,7,8,9,10,11,12,13,14,15,16,17,18,19,20,21,22,23,24,25,26,27,28,29,30,31,32,33,34,35,36,37,38,39,40,41,42,43,44,45,46,47,48,49,50,51,52] (fun i:Nat=>[(5,sl 0 1 ((LL.take i).flatten.map I)),(6,.f (I i))]) (fun i:Nat=>[ob 3 1 ((LL.take i).flatten.map I)]) (fun i:Nat=>i≤LL.length∧(LL.take i).flatten.Nodup∧(∀j,j<i→risB n (LL.getD j [])=true)∧(LL.take i).flatten.length≤8*i) (fun i:Nat=>LL.length-i) (0) (⟨Nat.zero_le _,by simp,fun j h=>by omega,by simp⟩) (by refine weak_of ?_ ?_<;>simp (disch:=omega) only [go_sem]<;>first|rfl|exact ⟨rfl,rfl⟩|exact Or.inl rfl|exact ⟨Or.inl rfl,Or.inl rfl⟩|trivial|assumption|omega|(symm;assumption)|((repeat' apply And.intro)<;>first|rfl|omega|trivial|exact .inl rfl|exact .inr ⟨rfl,rfl⟩|exact .inr rfl|(right;symm;assumption)|(symm;assumption)|assumption)) ?_
 rintro i ⟨hi,hnd,hr,hlen⟩
 simp only [go_sem]
 (repeat (with_reducible first|refine W_seq fun K hK=>?_|refine J_region ?_ |refine J_c ?_|(refine Kont.go (by assumption) ?_)|(simp (config:={ maxSteps:=3000000 }) (disch:=omega) only [go_sem,List.length_map])))
 refine Jc_if (fun hil=>?_) (fun hil=>?_)<;>try simp only [decide_eq_true_eq,decide_eq_false_iff_not] at hil
 ·have gi:=map_get ints LL hil
  have hli:=hL _ (List.getElem_mem hil)
  have hri:=rising_w (n:=n) LL[i] (by omega) hli.2 hli.1
  have hgd:=lget_lt LL [] hil
  (repeat (with_reducible first|refine W_seq fun K hK=>?_|refine J_block ?_|refine J_skip ?_|refine J_region ?_ |(refine Kont.go (by assumption) ?_)|(simp (config:={ maxSteps:=3000000 }) (disch:=omega) only [go_sem,↓reduceIte,gi])))
  (first|refine call_f (hri) rfl ?_|refine callQ_f (hri) rfl ?_|refine callHK_f (hri) rfl ?_|refine callH_f (hri) rfl ?_)
  cases hrb:risB n LL[i] with
  | false =>
   have:=bad ⟨i,hil,by rw [hgd];exact hrb⟩
   (repeat (with_reducible first|refine W_seq fun K hK=>?_|refine J_ret ?_|refine J_region ?_ |refine J_c ?_|refine Jc_true ?_|(refine Kont.go (by assumption) ?_)|(simp (config:={ maxSteps:=3000000 }) (disch:=omega) only [go_sem])))
   rw [hb,this];exact Frz.f _
  | true =>
   have hl8:=hris _ hrb
   (repeat (with_reducible first|refine W_seq fun K hK=>?_|refine J_block ?_|refine J_skip ?_|refine J_region ?_ |refine J_c ?_|refine Jc_false ?_|(refine Kont.go (by assumption) ?_)|(simp (config:={ maxSteps:=3000000 }) (disch:=omega) only [go_sem])))
   obtain ⟨F,hF⟩:∃F,F=(LL.take i).flatten:=⟨_,rfl⟩
   have hfi:=hfl i hil
   rw [hgd] at hfi
   rw [←hF] at hnd hlen hfi ⊢
   have h00:F=F++LL[i].take 0:=by simp
   rw [h00]
   refine W_loop [4,5,8,9,24,25,26,27,28,29,30,31,32,33,34,35,36,37,38,39,40,41,42,43,44,45,46,47,48,49,50,51,52] (fun k:Nat=>[(5,sl 0 1 ((F++LL[i].take k).map I)),(8,.f (I k))]) (fun k:Nat=>[ob 3 1 ((F++LL[i].take k).map I)]) (fun k:Nat=>k≤LL[i].length∧(F++LL[i].take k).Nodup) (fun k:Nat=>LL[i].length-k) (0) (⟨Nat.zero_le _,by rw [←h00];exact hnd⟩) (by refine weak_of ?_ ?_<;>simp (disch:=omega) only [go_sem]<;>first|rfl|exact ⟨rfl,rfl⟩|exact Or.inl rfl|exact ⟨Or.inl rfl,Or.inl rfl⟩|trivial|assumption|omega|(symm;assumption)|((repeat' apply And.intro)<;>first|rfl|omega|trivial|exact .inl rfl|exact .inr ⟨rfl,rfl⟩|exact .inr rfl|(right;symm;assumption)|(symm;assumption)|assumption)) ?_
   rintro k ⟨hk,hkn⟩
   have hFl:(F++LL[i].take k).length≤100:=by rw [List.length_append,List.length_take];omega
   simp only [go_sem]
   (repeat (with_reducible first|refine W_seq fun K hK=>?_|refine J_region ?_ |refine J_c ?_|(refine Kont.go (by assumption) ?_)|(simp (config:={ maxSteps:=3000000 }) (disch:=omega) only [go_sem,↓reduceIte,gi,List.length_map])))
   refine Jc_if (fun hkl=>?_) (fun hkl=>?_)<;>try simp only [decide_eq_true_eq,decide_eq_false_iff_not] at hkl
   ·have gk:=map_get I LL[i] hkl
    have hin:=rin_w LL[i][k] (F++LL[i].take k) (hli.2 _ (List.getElem_mem _)) (by omega)
    have htk:(F++LL[i].take k)++[LL[i][k]]=F++LL[i].take (k+1):=by rw [List.take_add_one,List.getElem?_eq_getElem hkl,List.append_assoc];rfl
    (repeat (with_reducible first|refine W_seq fun K hK=>?_|refine J_block ?_|refine J_skip ?_|refine J_region ?_ |(refine Kont.go (by assumption) ?_)|(simp (config:={ maxSteps:=3000000 }) (disch:=omega) only [go_sem,↓reduceIte,gi,gk])))
    (first|refine call_fl (hin) (by first|exact .v _|exact .agg _ (by intro j c h;simp at h;subst h;exact .v _)) (by repeat (first|exact FrzL.nil _|refine FrzL.cons (by first|exact .f _|exact .nil _|exact .sl rfl|exact .sl (by simp;done)) ?_)) ?_|refine callQ_fl (hin) (by first|exact .v _|exact .agg _ (by intro j c h;simp at h;subst h;exact .v _)) (by repeat (first|exact FrzL.nil _|refine FrzL.cons (by first|exact .f _|exact .nil _|exact .sl rfl|exact .sl (by simp;done)) ?_)) ?_|refine callH_fl (hin) (by first|exact .v _|exact .agg _ (by intro j c h;simp at h;subst h;exact .v _)) (by repeat (first|exact FrzL.nil _|refine FrzL.cons (by first|exact .f _|exact .nil _|exact .sl rfl|exact .sl (by simp;done)) ?_)) ?_)
    by_cases hm:LL[i][k]∈F++LL[i].take k
    ·have hmd:=decide_eq_true hm
     have hbf:apOk n LL=false:=by
      unfold apOk
      rw [Bool.and_eq_false_iff]
      right
      refine decide_eq_false fun h=>?_
      have h1:(LL.take (i+1)).flatten.Nodup:=(hsub (i+1)).resolve_right fun h'=>h' h
      rw [hfi,←List.take_append_drop (k+1) LL[i],←List.append_assoc,←htk] at h1
      have h2:=(List.nodup_append.1 h1).1
      exact (List.nodup_append.1 h2).2.2 _ hm _ (by simp) rfl
     (repeat (with_reducible first|refine W_seq fun K hK=>?_|refine J_ret ?_|refine J_region ?_ |refine J_c ?_|refine Jc_true ?_|(refine Kont.go (by assumption) ?_)|(simp (config:={ maxSteps:=3000000 }) (disch:=omega) only [go_sem,hmd])))
     rw [hb,hbf];exact Frz.f _
    ·have hmd:=decide_eq_false hm
     have hnd2:(F++LL[i].take (k+1)).Nodup:=by
      rw [←htk,List.nodup_append]
      refine ⟨hkn,by simp,fun a ha b hb=>?_⟩
      rw [List.mem_singleton.1 hb]
      exact fun e=>hm (e▸ha)
     have hap:(F.length+(LL[i].take k).length+1)*8≤140737488355328:=by rw [List.length_append] at hFl;omega
     have hsn:((F++LL[i].take k).map I)++[FV.v (.int .i64 LL[i][k])]=(F++LL[i].take (k+1)).map I:=by rw [←htk];exact Is_snoc
     (repeat (first|(with_reducible first|refine W_seq fun K hK=>?_|refine J_skip ?_|refine J_region ?_ |refine aApp_sl ?_|refine J_c ?_|refine Jc_false ?_|(refine Kont.go (by assumption) ?_)|(simp (config:={ maxSteps:=3000000 }) (disch:=omega) only [go_sem,Nat.reduceEqDiff,↓reduceIte,Nat.reduceLeDiff,hmd,gi,gk,hap,hsn,List.length_map]))|refine And.intro (by omega) ?_))
     refine ⟨k+1,⟨by omega,hnd2⟩,by omega,weak_of ?_ ?_⟩<;>(try simp (disch:=omega) only [go_sem])<;>(try first|done|omega|rfl|exact ⟨rfl,rfl⟩|trivial)
   ·have he:k=LL[i].length:=by omega
    subst he
    rw [List.take_length,←hfi] at hkn ⊢
    (repeat (with_reducible first|refine J_exit ?_|refine J_region ?_ |(refine Kont.go (by assumption) ?_)|(simp (config:={ maxSteps:=3000000 }) (disch:=omega) only [go_sem,↓reduceIte])))
    refine ⟨i+1,⟨by omega,hkn,upto_next (p:=fun j=>risB n (LL.getD j [])=true) hr (by rw [hgd];exact hrb),by rw [hfi,List.length_append];omega⟩,by omega,weak_of ?_ ?_⟩<;>(try simp (disch:=omega) only [go_sem])<;>(try first|done|omega|rfl|exact ⟨rfl,rfl⟩|trivial)
 ·have he:i=LL.length:=by omega
  subst he
  rw [List.take_length] at hnd
  have hbt:apOk n LL=true:=by
   unfold apOk
   rw [Bool.and_eq_true,List.all_eq_true]
   refine ⟨fun l hl=>?_,decide_eq_true hnd⟩
   obtain ⟨j,hj,e⟩:=List.getElem_of_mem hl
   have:=hr j hj
   rwa [lget_lt LL [] hj,e] at this
  (repeat (with_reducible first|refine W_seq fun K hK=>?_|refine J_exit ?_|refine J_ret ?_|refine J_region ?_ |(refine Kont.go (by assumption) ?_)|(simp (config:={ maxSteps:=3000000 }) (disch:=omega) only [go_sem,↓reduceIte])))
  rw [hb,hbt];exact Frz.f _
def apV (P:List Nat) (n x y z:Nat):Bool:=!((els x).any fun v=>opnP P n y z n [v])
def aprE (L:List (List Int)) (x y z:List Int):Int:=if ordE L≠0 then ordE L else if apOk L.length [x,y,z]=true then 0 else 11
def aprB (L:List (List Int)) (x y z:List Int):Bool:=if ordE L=0∧apOk L.length [x,y,z]=true then apV (setsOf L) L.length (setI x) (setI y) (setI z) else false
theorem ap_ris {n:Nat} {x y z:List Int} (h:apOk n [x,y,z]=true):risB n x=true∧risB n y=true∧risB n z=true:=by
 unfold apOk at h
 have h1:=List.all_eq_true.1 (Bool.and_eq_true_iff.1 h).1
 exact ⟨h1 x (by simp),h1 y (by simp),h1 z (by simp)⟩
theorem ris_Is {n:Nat} {x:List Int} (hn:n≤8) (h:risB n x=true):ints x=.fz 1 (Ns (els (setI x))):=by show FV.fz 1 (x.map I)=_;rw [ris_els hn h]
set_option maxRecDepth 100000 in
set_option maxHeartbeats 8000000 in
theorem rApart_w (L:List (List Int)) (hL:OkIss L) (x y z:List Int) (hx:OkNs x) (hy:OkNs y) (hz:OkNs z) :
  Good Tryd.prog 16 [.fz 1 (L.map ints),ints x,ints y,ints z] (.tup [Bo (aprB L x y z),I (aprE L x y z)]):=by
 have hc:=rcheck_w2 L hL
 by_cases h0:ordE L=0
 case neg =>
  rw [show aprB L x y z=false by unfold aprB;rw [if_neg fun h=>h0 h.1],show aprE L x y z=ordE L by unfold aprE;rw [if_pos h0]]
  refine good_of Tryd.func16 rfl (by kernel_rfl) fun X hO hrd=>?_;rw [Tryd.ntmps16,Tryd.results16];simp only [ast0,List.map_cons,List.map_nil,List.length_cons,List.length_nil,Nat.reduceAdd,Nat.reduceSub,List.replicate_succ,List.replicate_zero,List.cons_append,List.nil_append]
  (repeat (with_reducible first|refine W_seq fun K hK=>?_|refine J_region ?_ |(refine Kont.go (by assumption) ?_)|(simp (config:={ maxSteps:=3000000 }) (disch:=omega) only [go_sem])))
  (first|refine call_f (hc) rfl ?_|refine callQ_f (hc) rfl ?_|refine callHK_f (hc) rfl ?_|refine callH_f (hc) rfl ?_)
  (repeat (with_reducible first|refine W_seq fun K hK=>?_|refine J_ret ?_|refine J_region ?_ |refine J_c ?_|refine Jc_true ?_|(refine Kont.go (by assumption) ?_)|(simp (config:={ maxSteps:=3000000 }) (disch:=omega) only [go_sem,h0])))
  exact ⟨_,rfl,FrzL.fs [_,_]⟩
 obtain ⟨hb,o,ho⟩:=ord_ok h0
 have hg:=GP.of hb
 have hn8:=hg.n8
 rw [h0] at hc
 have hLl:(L.map ints).length=L.length:=List.length_map _
 have has:=apartSets_w hn8 [x,y,z] (show 3≤4 by decide) (fun l hl=>by simp at hl;rcases hl with rfl|rfl|rfl<;>assumption)
 have hmap:[x,y,z].map ints=[ints x,ints y,ints z]:=rfl
 rw [hmap] at has
 cases hok:apOk L.length [x,y,z] with
 | false =>
  rw [hok] at has
  rw [show aprB L x y z=false by unfold aprB;rw [if_neg fun h=>by rw [hok] at h;cases h.2],show aprE L x y z=11 by unfold aprE;rw [if_neg (by omega),if_neg (by rw [hok];decide)]]
  refine good_of Tryd.func16 rfl (by kernel_rfl) fun X hO hrd=>?_;rw [Tryd.ntmps16,Tryd.results16];simp only [ast0,List.map_cons,List.map_nil,List.length_cons,List.length_nil,Nat.reduceAdd,Nat.reduceSub,List.replicate_succ,List.replicate_zero,List.cons_append,List.nil_append]
  (repeat (with_reducible first|refine W_seq fun K hK=>?_|refine J_region ?_ |(refine Kont.go (by assumption) ?_)|(simp (config:={ maxSteps:=3000000 }) (disch:=omega) only [go_sem])))
  (first|refine call_f (hc) rfl ?_|refine callQ_f (hc) rfl ?_|refine callHK_f (hc) rfl ?_|refine callH_f (hc) rfl ?_)
  (repeat (first|(with_reducible first|refine W_seq fun K hK=>?_|refine J_skip ?_|refine J_region ?_ |refine J_c ?_|refine Jc_false ?_|(refine Kont.go (by assumption) ?_)|(simp (config:={ maxSteps:=3000000 }) (disch:=omega) only [go_sem,↓reduceIte,Nat.reduceAdd,hLl]))|refine And.intro (by omega) ?_))
  refine call_fl has (.v _) (FrzL.cons (.f _) (FrzL.cons (Frz.own0 rfl rfl) (FrzL.nil _))) ?_
  (repeat (with_reducible first|refine W_seq fun K hK=>?_|refine J_ret ?_|refine J_region ?_ |refine J_c ?_|refine Jc_true ?_|(refine Kont.go (by assumption) ?_)|(simp (config:={ maxSteps:=3000000 }) (disch:=omega) only [go_sem])))
  exact ⟨_,rfl,FrzL.fs [_,_]⟩
 | true =>
  obtain ⟨hrx,hry,hrz⟩:=ap_ris hok
  rw [hok] at has
  have hx3:∀v,(setI x).testBit v=true→v<L.length:=fun v hv=>setI_mem hrx hv
  have hz3:∀v,(setI z).testBit v=true→v<L.length:=fun v hv=>setI_mem hrz hv
  have hy8:=ris_lt hn8 hry
  obtain ⟨rk,_,hrk⟩:=ord_rank hg.pa ho
  rw [show aprB L x y z=apV (setsOf L) L.length (setI x) (setI y) (setI z) by unfold aprB;rw [if_pos ⟨h0,hok⟩],show aprE L x y z=0 by unfold aprE;rw [if_neg (by omega),if_pos hok]]
  rw [ris_Is hn8 hrx,ris_Is hn8 hry,ris_Is hn8 hrz] at has ⊢
  rw [gvs_of hb] at hc ⊢
  have hgl:(gvs (setsOf L)).length=L.length:=by rw [gvs_len,setsOf_len]
  obtain ⟨n,hn⟩:∃n,n=L.length:=⟨_,rfl⟩
  obtain ⟨P,hP⟩:∃P,P=setsOf L:=⟨_,rfl⟩
  rw [←hn] at hg hgl has hx3 hz3
  rw [←hP] at hg hgl hc hrk
  rw [←hn,←hP]
  have hn8:=hg.n8
  have hxl:=els_len (s:=setI x)
  obtain ⟨b,hb⟩:∃b,b=apV P n (setI x) (setI y) (setI z):=⟨_,rfl⟩
  rw [←hb]
  refine good_of Tryd.func16 rfl (by kernel_rfl) fun X hO hrd=>?_;rw [Tryd.ntmps16,Tryd.results16];simp only [ast0,List.map_cons,List.map_nil,List.length_cons,List.length_nil,Nat.reduceAdd,Nat.reduceSub,List.replicate_succ,List.replicate_zero,List.cons_append,List.nil_append]
  (repeat (with_reducible first|refine W_seq fun K hK=>?_|refine J_region ?_ |(refine Kont.go (by assumption) ?_)|(simp (config:={ maxSteps:=3000000 }) (disch:=omega) only [go_sem])))
  (first|refine call_f (hc) rfl ?_|refine callQ_f (hc) rfl ?_|refine callHK_f (hc) rfl ?_|refine callH_f (hc) rfl ?_)
  (repeat (first|(with_reducible first|refine W_seq fun K hK=>?_|refine J_skip ?_|refine J_region ?_ |refine J_c ?_|refine Jc_false ?_|(refine Kont.go (by assumption) ?_)|(simp (config:={ maxSteps:=3000000 }) (disch:=omega) only [go_sem,↓reduceIte,Nat.reduceAdd,hgl]))|refine And.intro (by omega) ?_))
  refine call_fl has (.v _) (FrzL.cons (.f _) (FrzL.cons (Frz.own0 rfl rfl) (FrzL.nil _))) ?_
  (repeat (with_reducible first|refine W_seq fun K hK=>?_|refine J_block ?_|refine J_skip ?_|refine J_region ?_ |refine J_c ?_|refine Jc_false ?_|(refine Kont.go (by assumption) ?_)|(simp (config:={ maxSteps:=3000000 }) (disch:=omega) only [go_sem])))
  refine W_loop [8,9,12,13,28,29,30,31,32,33,34,35,36,37,38,39,40,41,42,43] (fun i:Nat=>[(12,.f (I i)),(24,.any)]) (fun i:Nat=>[]) (fun i:Nat=>i≤(els (setI x)).length∧∀j,j<i→opnP P n (setI y) (setI z) n [(els (setI x)).getD j 0]=false) (fun i:Nat=>(els (setI x)).length-i) (0) (⟨Nat.zero_le _,fun j h=>by omega⟩) (by refine weak_of ?_ ?_<;>simp (disch:=omega) only [go_sem]<;>first|rfl|exact ⟨rfl,rfl⟩|exact Or.inl rfl|exact ⟨Or.inl rfl,Or.inl rfl⟩|trivial|assumption|omega|(symm;assumption)|((repeat' apply And.intro)<;>first|rfl|omega|trivial|exact .inl rfl|exact .inr ⟨rfl,rfl⟩|exact .inr rfl|(right;symm;assumption)|(symm;assumption)|assumption)) ?_
  rintro i ⟨hi,hp⟩
  simp only [go_sem]
  (repeat (with_reducible first|refine W_seq fun K hK=>?_|refine J_region ?_ |refine J_c ?_|(refine Kont.go (by assumption) ?_)|(simp (config:={ maxSteps:=3000000 }) (disch:=omega) only [go_sem,Ns_len])))
  refine Jc_if (fun hil=>?_) (fun hil=>?_)<;>try simp only [decide_eq_true_eq,decide_eq_false_iff_not] at hil
  ·obtain ⟨u,hu⟩:∃u,(els (setI x))[i]?=some u:=⟨_,List.getElem?_eq_getElem hil⟩
   have hum:=els_mem.1 (List.mem_of_getElem? hu)
   have gu:=Ns_get (l:=els (setI x)) (i:=i) hil
   have gu2:(els (setI x)).getD i 0=u:=by rw [List.getD_eq_getElem?_getD,hu];rfl
   rw [gu2] at gu
   have hun:=hx3 u hum.2
   have hop:=open_w (y:=setI y) (z:=setI z) hg hrk hy8 hz3 n [u] (by simp) (by simpa using hun) (by simp) (by simp;omega)
   (repeat (first|(with_reducible first|refine W_seq fun K hK=>?_|refine J_block ?_|refine J_skip ?_|refine J_region ?_ |(refine Kont.go (by assumption) ?_)|(simp (config:={ maxSteps:=3000000 }) (disch:=omega) only [go_sem,↓reduceIte,gu]))|refine And.intro (by omega) ?_))
   refine call_fl hop (.v _) (FrzL.cons (.f _) (FrzL.cons (Frz.own0 rfl rfl) (FrzL.cons (.f _) (FrzL.cons (.f _) (FrzL.nil _))))) ?_
   cases ho:opnP P n (setI y) (setI z) n [u] with
   | true =>
    have:b=false:=by
     rw [hb];unfold apV
     rw [Bool.not_eq_false',List.any_eq_true]
     exact ⟨u,List.mem_of_getElem? hu,ho⟩
    (repeat (with_reducible first|refine W_seq fun K hK=>?_|refine J_ret ?_|refine J_region ?_ |refine J_c ?_|refine Jc_true ?_|(refine Kont.go (by assumption) ?_)|(simp (config:={ maxSteps:=3000000 }) (disch:=omega) only [go_sem])))
    rw [this];exact ⟨_,rfl,FrzL.fs [_,_]⟩
   | false =>
    (repeat (with_reducible first|refine W_seq fun K hK=>?_|refine J_skip ?_|refine J_region ?_ |refine J_c ?_|refine Jc_false ?_|(refine Kont.go (by assumption) ?_)|(simp (config:={ maxSteps:=3000000 }) (disch:=omega) only [go_sem])))
    refine ⟨i+1,⟨by omega,upto_next (p:=fun j=>opnP P n (setI y) (setI z) n [(els (setI x)).getD j 0]=false) hp (by rw [gu2];exact ho)⟩,by omega,weak_of ?_ ?_⟩<;>(try simp (disch:=omega) only [go_sem])<;>(try first|done|omega|rfl|exact ⟨rfl,rfl⟩|trivial)
  ·have:b=true:=by
    rw [hb];unfold apV
    rw [Bool.not_eq_true',List.any_eq_false]
    intro v hv h
    obtain ⟨q,hq,eq⟩:=List.getElem_of_mem hv
    have:=hp q (by omega)
    rw [lget_lt _ 0 hq,eq,h] at this
    cases this
   (repeat (with_reducible first|refine W_seq fun K hK=>?_|refine J_exit ?_|refine J_ret ?_|refine J_region ?_ |(refine Kont.go (by assumption) ?_)|(simp (config:={ maxSteps:=3000000 }) (disch:=omega) only [go_sem,↓reduceIte])))
   rw [this];exact ⟨_,rfl,FrzL.fs [_,_]⟩
end Go.Proofs.YtgjnbcfencallaaDoor
