/- Walks: nat.small, nat.Of. -/
import Derived.Test.YtlloghbaggdhnaaDoorNatA
set_option linter.unusedVariables false
set_option linter.unusedSimpArgs false
namespace Go.Proofs.YtlloghbaggdhnaaDoor
open Go.RowKit

set_option maxRecDepth 100000 in
set_option maxHeartbeats 400000 in
theorem small_any (n : Nat) (w : World) (hn : n < 18446744073709551616) :
    Calls Tryd.prog 137 #[.int .u64 n] w fun e w' => e = .returned (.string (ns n)) ∧ Below w.heap.size w w' := by
  have hl8 := nb_length_lt (n := n) (k := 8) (by omega)
  have HN := Lib.hid hn; clear hn
  go_enter Tryd.func137, Tryd.ntmps137
  go_wp2
  go_loopw [0, 4] (fun m at_ wr => ∃ (k p : Nat) (cs : List Value) (t : List UInt8), m = .int .u64 k ∧ k ≤ 18446744073709551615 ∧ p + t.length = 8 ∧ at_ = .int .i64 p ∧ nb n = nb k ++ t ∧ 
     Blk wr w.heap.size 198 cs ∧ cs.length = 8 ∧ cs.drop p = byteVals t ∧ Below w.heap.size w wr) (fun m _ _ => (intOf m).toNat)
  case atStart => exact ⟨n, 8, List.replicate 8 (.int .u8 0), [], rfl, by have := HN.out; omega, rfl, rfl, by simp, Blk.new w _ _, by simp, by simp [byteVals], (Below.refl _ _).alloc (Nat.le_refl _) _⟩
  case round =>
    obtain ⟨k, p, cs, t, rfl, hk, ht, rfl, hnb, hblk, hc, hd, hb⟩ := hrel
    have hlen : (nb k).length + t.length ≤ 8 := by rw [hnb] at hl8; simpa using hl8
    by_cases h0 : 0 < k
    · have hp : 0 < p := by
        obtain ⟨b, l, e, _⟩ := nb_head k (by omega)
        rw [e] at hlen; simp at hlen; omega
      have hp8 : p ≤ 8 := by omega
      have h1 : wr.cell? ⟨w.heap.size, p - 1, none⟩ = some (cs[p - 1]'(by omega)) := hblk.cell _ _
      generalize cs[p - 1]'(by omega) = x at h1
      have h2 : wr.frozen? ⟨w.heap.size, p - 1, none⟩ = false := hblk.frozen _
      have hcl : (k : Int) % 256 = ((UInt8.ofNat (k % 256)).toNat : Int) := by simp
      have H : Hid (p + t.length = 8 ∧ nb n = nb k ++ t ∧ Blk wr w.heap.size 198 cs ∧ cs.length = 8 ∧ cs.drop p = byteVals t ∧ (k : Int) % 256 = ((UInt8.ofNat (k % 256)).toNat : Int)) := ⟨ht, hnb, hblk, hc, hd, hcl⟩
      clear ht hnb hblk hc hd hcl hl8 hlen
      go_wp2
      obtain ⟨ht, hnb, hblk, hc, hd, hcl⟩ := H.out
      refine ⟨⟨k / 256, p - 1, cs.set (p - 1) (.int .u8 ((k : Int) % 256)), UInt8.ofNat (k % 256) :: t, by go_num, by omega, by simp; omega, by go_num, ?_, hblk.set _ _, by simpa using hc, ?_, hb.setCell (Nat.le_refl _) _⟩, by simp [intOf]; omega⟩
      · rw [hnb, nb_pos k (by omega)]; simp
      · rw [List.drop_eq_getElem_cons (by simp; omega)]
        simp only [List.getElem_set_self, byteVals, List.map_cons]
        rw [hcl, show p - 1 + 1 = p by omega, List.drop_set_of_lt (by omega), hd]; rfl
    · obtain rfl : k = 0 := by omega
      obtain ⟨v, hv, hsl⟩ := slice_arr_l (P := Tryd.prog) (t := 198) (e := 5) (size := 1) (n := 8) Tryd.underlying198 (fun _ => by kernel_rfl) hblk (by omega) (by simp [maxLen]) p (by omega)
      have hcv := conv_bytes (P := Tryd.prog) (l := t) (by rw [← hd]; simpa using hsl) 156 5 22 Tryd.underlying156 Tryd.underlying5 Tryd.underlying22
      have H : Hid (nb n = t) := by rw [hnb, nb_zero]; rfl
      clear hnb hd hblk hsl hlen hl8
      go_wp2
      go_ret
      exact ⟨ret_str (by unfold ns; rw [H.out]), hb⟩

set_option maxHeartbeats 400000 in
theorem of_any (n : Int) (w : World) (h0 : 0 ≤ n) (hn : n ≤ 9223372036854775807) :
    Calls Tryd.prog 73 #[.int .i64 n] w fun e w' => e = .returned (.string (ns n.toNat)) ∧ Below w.heap.size w w' := by
  obtain ⟨k, rfl⟩ := Int.eq_ofNat_of_zero_le h0
  go_enter Tryd.func73, Tryd.ntmps73
  go_wp2_with (go_at_call 137; refine (small_any _ _ (by omega)).mono ?_; rintro e w' ⟨rfl, hb⟩)
  go_ret
  exact ⟨rfl, hb⟩

set_option maxHeartbeats 400000 in
theorem of_neg (n : Int) (w : World) (h0 : n < 0) :
    Calls Tryd.prog 73 #[.int .i64 n] w fun e w' => e = .returned (.string (ns 0)) ∧ Below w.heap.size w w' := by
  go_enter Tryd.func73, Tryd.ntmps73
  go_wp2_with (go_at_call 137; refine (small_any 0 _ (by omega)).mono ?_; rintro e w' ⟨rfl, hb⟩)
  go_ret
  exact ⟨rfl, hb⟩
end Go.Proofs.YtlloghbaggdhnaaDoor
