/- Walks: slices.Reverse at bytes, nat.Text. -/
import Derived.Test.YtlloghbaggdhnaaDoorNatN
set_option linter.unusedVariables false
set_option linter.unusedSimpArgs false
namespace Go.Proofs.YtlloghbaggdhnaaDoor
open Go.RowKit

def RetRev (w : World) (b n : Nat) (cs : List Value) (l : List UInt8) (e : Ending) (w' : World) : Prop :=
  (∃ v, e = .returned v) ∧ (∃ cs', Blk w' b 5 cs' ∧ cs'.length = cs.length ∧ cs'.take n = byteVals l.reverse) ∧ w.grownBy w' (some b)

/-- i places from each end turned about. -/
def turned (l : List UInt8) (i k : Nat) : UInt8 := if k < i ∨ l.length ≤ k + i then l.getD (l.length - 1 - k) 0 else l.getD k 0

theorem turned_step (l : List UInt8) (i j k : Nat) (hk : k < l.length) (hj : j + i + 1 = l.length) (hij : i < j) :
    turned l (i + 1) k = if k = i then l.getD j 0 else if k = j then l.getD i 0 else turned l i k := by
  unfold turned
  by_cases h1 : k = i
  · subst h1; rw [if_pos rfl, if_pos (by omega), show l.length - 1 - k = j by omega]
  · rw [if_neg h1]
    by_cases h2 : k = j
    · subst h2; rw [if_pos rfl, if_pos (by omega), show l.length - 1 - k = i by omega]
    · rw [if_neg h2]
      by_cases h3 : k < i ∨ l.length ≤ k + i
      · rw [if_pos h3, if_pos (by omega)]
      · rw [if_neg h3, if_neg (by omega)]
theorem turned_end (l : List UInt8) (i k : Nat) (hk : k < l.length) (hi : l.length ≤ i + i + 1) : turned l i k = l.getD (l.length - 1 - k) 0 := by
  unfold turned
  split
  · rfl
  · rw [show l.length - 1 - k = k by omega]

set_option maxRecDepth 100000 in
set_option maxHeartbeats 1000000 in
theorem reverse_any (b n cap : Nat) (cs : List Value) (l : List UInt8) (w : World) (hblk : Blk w b 5 cs) (hl : l.length = n) (hn : n ≤ cs.length) (hcs : cs.take n = byteVals l) (hcap : n ≤ cap) (hm : cap ≤ maxLen) :
    Calls Tryd.prog 147 #[.slice (some ⟨b, 0, none⟩) n cap] w (RetRev w b n cs l) := by
  unfold maxLen at hm
  have H0 : Hid (Blk w b 5 cs ∧ l.length = n ∧ cs.take n = byteVals l ∧ n ≤ cs.length) := ⟨hblk, hl, hcs, hn⟩
  clear hblk hl hcs hn
  go_enter Tryd.func147, Tryd.ntmps147
  go_wp2
  go_loopw [2, 3] (fun u v wr => ∃ (i : Nat) (z : Int) (cs' : List Value), u = .int .i64 i ∧ v = .int .i64 z ∧ z = (n : Int) - 1 - i ∧ i ≤ n ∧ Blk wr b 5 cs' ∧ cs'.length = cs.length ∧ (∀ k, k < n → cs'[k]? = some (.int .u8 (turned l i k).toNat)) ∧ w.grownBy wr (some b)) (fun _ v _ => (intOf v + 1).toNat)
  case atStart =>
    obtain ⟨h0, hl0, ht0, hn0⟩ := H0.out
    refine ⟨0, _, cs, rfl, rfl, by omega, by omega, h0, rfl, fun k hk => ?_, grown_refl _ _⟩
    rw [← List.getElem?_take_of_lt hk, ht0, turned, if_neg (by omega), byteVals, List.getElem?_map, List.getElem?_eq_getElem (by omega), List.getD_eq_getElem?_getD, List.getElem?_eq_getElem (by omega)]
    rfl
  case round =>
    obtain ⟨i, z, cs', rfl, rfl, hz, hin, hblk, hlen, hk, hgr⟩ := hrel
    by_cases hij : (i : Int) < z
    · obtain ⟨j, rfl⟩ := Int.eq_ofNat_of_zero_le (show 0 ≤ z by omega)
      have hj : j + i + 1 = n := by omega
      obtain ⟨h0, hl0, _, hn0⟩ := H0.out
      have c1 : wr.cell? ⟨b, i, none⟩ = some (.int .u8 (l.getD i 0).toNat) := by
        rw [hblk.cell?, hk i (by omega), turned, if_neg (by omega)]
      have c2 : wr.cell? ⟨b, j, none⟩ = some (.int .u8 (l.getD j 0).toNat) := by
        rw [hblk.cell?, hk j (by omega), turned, if_neg (by omega)]
      have f1 := hblk.frozen i
      have f2 := hblk.frozen j
      have hij' : i < j := by omega
      have hjn : j < n := by omega
      have hin' : i < n := by omega
      generalize hx : l.getD i 0 = x at *
      generalize hy : l.getD j 0 = y at *
      have H : Hid (j + i + 1 = n ∧ Blk wr b 5 cs' ∧ cs'.length = cs.length ∧ (∀ k, k < n → cs'[k]? = some (.int .u8 (turned l i k).toNat)) ∧ l.getD i 0 = x ∧ l.getD j 0 = y ∧ w.grownBy wr (some b) ∧ l.length = n ∧ n ≤ cs.length) := ⟨hj, hblk, hlen, hk, hx, hy, hgr, hl0, hn0⟩
      clear hz hj hblk hlen hk hx hy hgr h0 hl0 hn0 hij
      go_wp2
      go_region
      go_wp2
      obtain ⟨hj, hblk, hlen, hk, hx, hy, hgr, hl0, hn0⟩ := H.out
      refine ⟨⟨i + 1, _, (cs'.set i (.int .u8 y.toNat)).set j (.int .u8 x.toNat), by go_num, rfl, by omega, by omega, ((hblk.set i _).set j _).drew, by simpa using hlen, fun k hkn => ?_, grown_drew (grown_set (grown_set hgr _ _) _ _)⟩, by simp [intOf]⟩
      rw [turned_step l i j k (by omega) (by omega) hij' , hx, hy, List.getElem?_set, List.getElem?_set]
      by_cases hkj : j = k
      · subst hkj
        rw [if_pos rfl, if_pos (by simp; omega), if_neg (by omega), if_pos rfl]
      · rw [if_neg hkj]
        by_cases hki : i = k
        · subst hki
          rw [if_pos rfl, if_pos (by omega), if_pos rfl]
        · rw [if_neg hki, if_neg (fun e => hki e.symm), if_neg (fun e => hkj e.symm)]
          exact hk k hkn
    · obtain ⟨h0, hl0, ht0, hn0⟩ := H0.out
      have hfin : cs'.take n = byteVals l.reverse := by
        apply List.ext_getElem?
        intro k
        by_cases hkn : k < n
        · rw [List.getElem?_take_of_lt hkn, hk k hkn, byteVals, List.getElem?_map, List.getElem?_reverse (by omega), turned_end l i k (by omega) (by omega), List.getD_eq_getElem?_getD, List.getElem?_eq_getElem (by omega)]
          rfl
        · rw [List.getElem?_eq_none (by rw [List.length_take]; omega), List.getElem?_eq_none (by simp [byteVals]; omega)]
      have H : Hid (Blk wr b 5 cs' ∧ cs'.length = cs.length ∧ cs'.take n = byteVals l.reverse ∧ w.grownBy wr (some b)) := ⟨hblk, hlen, hfin, hgr⟩
      clear hblk hlen hfin hgr hk h0 hl0 ht0 hn0 hz
      go_wp2
      go_end0
      obtain ⟨h1, h2, h3, h4⟩ := H.out
      exact ⟨⟨_, rfl⟩, ⟨_, h1, h2, h3⟩, h4⟩
end Go.Proofs.YtlloghbaggdhnaaDoor
