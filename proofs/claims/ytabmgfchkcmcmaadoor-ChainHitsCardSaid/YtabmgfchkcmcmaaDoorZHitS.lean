/- What chain.Hits reckons is how likely one comes there. Plain Lean. Conditions: none. -/
import Derived.Test.YtabmgfchkcmcmaaDoorZHitW
import Derived.Test.YtabmgfchkcmcmaaDoorZHitL
import Derived.Test.YtabmgfchkcmcmaaDoorZBfsL
import Derived.Test.YtabmgfchkcmcmaaDoorZPowT
set_option linter.unusedVariables false
set_option linter.unusedSimpArgs false
namespace Go.Proofs.YtabmgfchkcmcmaaDoor
open Go Go.RowKit
section
variable {m : List (List Rat)} {l : List Nat} {n : Nat}
theorem hitC_can (hl : ∀ t ∈ l, t < n) : CanTo n (at2 m) (hitT l) (hitC (wsh (edg m) n) l) := fun i hi => by
  unfold hitC
  rw [List.any_eq_true]
  constructor
  · rintro ⟨q, hq, h⟩
    have hq := List.mem_range.1 hq
    have hm : l.getD q 0 ∈ l := by rw [lget_lt l 0 hq]; exact List.getElem_mem _
    exact ⟨_, hl _ hm, decide_eq_true hm, (wsh_iff hi (hl _ hm)).1 h⟩
  · rintro ⟨t, ht, hS, hst⟩
    obtain ⟨q, hq, e⟩ := List.getElem_of_mem (of_decide_eq_true hS)
    refine ⟨q, List.mem_range.2 hq, ?_⟩
    rw [lget_lt l 0 hq, e]
    exact (wsh_iff hi ht).2 hst
theorem hitAug (hn : n = m.length) {i k : Nat} (hi : i < n) (hk : k ≤ n) : augM ((List.range m.length).map (hRw m (wsh (edg m) m.length) l)) ((List.range m.length).map (hB l)) i k = hitM n (at2 m) (hitT l) (hitC (wsh (edg m) n) l) i k := by
  subst hn
  have hlen : ((List.range m.length).map (hRw m (wsh (edg m) m.length) l)).length = m.length := by simp
  unfold augM hitM
  rw [hlen]
  by_cases e : k = m.length
  · rw [if_pos e, if_pos e]
    have : ((List.range m.length).map (hB l))[i]? = some (hB l i) := by simp [hi]
    rw [List.getD_eq_getElem?_getD, this]; rfl
  · rw [if_neg e, if_neg e]
    have hk' : k < m.length := by omega
    have e1 : ((List.range m.length).map (hRw m (wsh (edg m) m.length) l))[i]? = some (hRw m (wsh (edg m) m.length) l i) := by simp [hi]
    have e2 : (hRw m (wsh (edg m) m.length) l i)[k]? = some (hitV m (wsh (edg m) m.length) l i k) := by simp [hRw, hk']
    have e3 : at2 ((List.range m.length).map (hRw m (wsh (edg m) m.length) l)) i k = hitV m (wsh (edg m) m.length) l i k := by
      unfold at2
      rw [List.getD_eq_getElem?_getD (l := (List.range m.length).map (hRw m (wsh (edg m) m.length) l)), e1]
      show (hRw m (wsh (edg m) m.length) l i).getD k 0 = _
      rw [List.getD_eq_getElem?_getD, e2]; rfl
    rw [e3]; rfl
theorem hitL_spec (hs : Sto n (at2 m)) (hn : n = m.length) (hl : ∀ t ∈ l, t < n) : ∃ h : Nat → Rat, hitL m l = (List.range n).map h ∧ Hit n (at2 m) (hitT l) (hitC (wsh (edg m) n) l) h := by
  have hC := hitC_can (m := m) hl
  obtain ⟨M, hM⟩ : ∃ M, M = augM ((List.range m.length).map (hRw m (wsh (edg m) m.length) l)) ((List.range m.length).map (hB l)) := ⟨_, rfl⟩
  have ent : ∀ i k, i < n → k ≤ n → M i k = hitM n (at2 m) (hitT l) (hitC (wsh (edg m) n) l) i k := fun i k hi hk => hM ▸ hitAug hn hi hk
  have hom : ∀ y, Hom n M y → Hom n (hitM n (at2 m) (hitT l) (hitC (wsh (edg m) n) l)) y := fun y hy i hi => by
    rw [← hy i hi]; exact sumF_congr fun k hk => by rw [ent i k hi (by omega)]
  obtain ⟨M', hM'⟩ := gs_some (M := M) fun y hy => hit_hom hs hC (hom y hy)
  have hsol0 : Sol n M (fun i => M' i n) := (gs_sol hM').2 fun i _ => rfl
  have hsol : Sol n (hitM n (at2 m) (hitT l) (hitC (wsh (edg m) n) l)) (fun i => M' i n) := fun i hi => by
    have := hsol0 i hi
    rw [← ent i n hi (Nat.le_refl _), ← this]
    exact sumF_congr fun k hk => by rw [ent i k hi (by omega)]
  obtain ⟨M2, hM2, hh⟩ := hit_gs hs hC
  have hsame : ∀ i, i < n → M' i n = M2 i n := fun i hi => (gs_sol hM2).1 hsol i hi
  refine ⟨fun i => M2 i n, ?_, hh⟩
  unfold hitL solR
  have hlen : ((List.range m.length).map (hRw m (wsh (edg m) m.length) l)).length = n := by simp [hn]
  rw [hlen, ← hM, hM']
  exact List.map_congr_left fun i hi => hsame i (List.mem_range.1 hi)
theorem hitL_fz {b : Nat} {ys : List FV} (hm : SqM b ys m) (h1 : 1 ≤ b) : Row (szG (b + 9) m.length) (hitL m l) := by
  have hone : Fz (1 : Rat) (b + 9) := (Fz.int (n := 1) (by decide)).up (by omega)
  have hzero : Fz (0 : Rat) (b + 9) := (Fz.int (n := 0) (by decide)).up (by omega)
  have hW : ∀ a k, a < m.length → k < m.length → Fz (hitV m (wsh (edg m) m.length) l a k) (b + 9) := fun a k ha hk => by
    unfold hitV
    split
    · refine Fz.up (Fz.sub (j := 8) (k := b) ?_ (hm.f2 h1 (by omega) (by omega))) (by omega)
      split
      · exact Fz.int (n := 1) (by decide)
      · exact Fz.int (n := 0) (by decide)
    · split
      · exact hone
      · exact hzero
  have hAl : ((List.range m.length).map (hRw m (wsh (edg m) m.length) l)).length = m.length := by simp
  have := solR_fz (A := (List.range m.length).map (hRw m (wsh (edg m) m.length) l)) (b := (List.range m.length).map (hB l)) (s := b + 9) (by omega) (fun r hr => by
    obtain ⟨a, _, rfl⟩ := List.mem_map.1 hr
    simp [hRw]) (by simp) (fun r hr => by
    obtain ⟨a, ha, rfl⟩ := List.mem_map.1 hr
    intro z hz
    obtain ⟨k, hk, rfl⟩ := List.mem_map.1 hz
    exact hW a k (List.mem_range.1 ha) (List.mem_range.1 hk)) (fun z hz => by
    obtain ⟨a, _, rfl⟩ := List.mem_map.1 hz
    unfold hB
    split
    · exact hone
    · exact hzero)
  rwa [hAl] at this
end
theorem low_fz {n : Nat} {A : Mx} {S : Nat → Bool} (hn : n ≤ 6) (h : ∀ i k, i < n → k < n → Fz (A i k) 8) : ∀ d i, i < n → Fz (lowF n A S d i) (szQ 8 d) := by
  intro d
  induction d with
  | zero =>
    intro i _
    show Fz (if S i = true then (1 : Rat) else 0) 8
    split
    · exact Fz.int (n := 1) (by decide)
    · exact Fz.int (n := 0) (by decide)
  | succ d ih =>
    intro i hi
    show Fz (if S i = true then (1 : Rat) else sumF (fun j => A i j * lowF n A S d j) n) (8 + 6 * (szQ 8 d + 8 + 1))
    split
    · exact (Fz.int (n := 1) (by decide)).up (by omega)
    · have := sumF_fz (n := n) (f := fun j => A i j * lowF n A S d j) (s := 8 + szQ 8 d) fun j hj => (h i j hi hj).mul (ih j hj)
      refine Fz.up this ?_
      have := Nat.mul_le_mul_right (8 + szQ 8 d + 1) hn
      omega
theorem ris_of {n : Nat} {l : List Nat} (hp : l.Pairwise (· < ·)) (hl : ∀ t ∈ l, t < n) : risB n (l.map Int.ofNat) = true := by
  refine risB_iff.2 fun x hx => ?_
  rw [List.length_map] at hx
  have hg : ∀ q, q < l.length → (l.map Int.ofNat).getD q 0 = ((l.getD q 0 : Nat) : Int) := fun q hq => by
    rw [lget_lt _ 0 (by rw [List.length_map]; exact hq), List.getElem_map, lget_lt l 0 hq]; rfl
  have hlt : l.getD x 0 < n := by rw [lget_lt l 0 hx]; exact hl _ (List.getElem_mem _)
  refine ⟨?_, by rw [hg x hx]; omega⟩
  unfold prevI
  by_cases e : x = 0
  · rw [if_pos e, hg x hx]; omega
  · rw [if_neg e, hg x hx, hg (x - 1) (by omega)]
    have := List.pairwise_iff_getElem.1 hp (x - 1) x (by omega) hx (by omega)
    rw [lget_lt l 0 hx, lget_lt l 0 (by omega)]
    omega
theorem someL_pw {l : List Int} {n x : Nat} : (someL l n x).Pairwise (· < ·) := List.Pairwise.filter _ List.pairwise_lt_range
theorem someL_lt {l : List Int} {n x : Nat} : ∀ t ∈ someL l n x, t < x := fun t ht => List.mem_range.1 (List.mem_filter.1 ht).1
end Go.Proofs.YtabmgfchkcmcmaaDoor
