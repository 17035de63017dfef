/- Walks: augurref.pack, NatAdd. -/
import Derived.Test.YtbpdgfilffdegaaDoorRefB
set_option linter.unusedVariables false
set_option linter.unusedSimpArgs false
namespace Go.Proofs.YtbpdgfilffdegaaDoor
open Go.RowKit
open Go.IntWalk (wrap64_in)

theorem el_ints : ElemT Tryd.prog 23 3 1 8 (.int .i64 0) := ElemT.mk' Tryd.underlying23 (by kernel_rfl) rfl (by decide)
def intVals (l : List Nat) : List Value := l.map fun d => Value.int .i64 (d : Nat)
theorem SliceAt.blk {w : World} {b : Nat} {e : TypeId} {cs : List Value} (h : Blk w b e cs) {n : Nat} (hn : cs.length = n) (hm : n ≤ maxLen) : SliceAt w (.slice (some ⟨b, 0, none⟩) n n) 1 cs :=
  ⟨n, n, hm, Nat.le_refl _, hm, by omega, .inr ⟨b, 0, rfl, fun i hi => by rw [Nat.zero_add, h.cell i hi]⟩⟩

set_option maxRecDepth 100000 in
set_option maxHeartbeats 1000000 in
theorem pack_any (l : List Nat) (v : Value) (w : World) (h : SliceAt w v 1 (intVals l)) (hl : ∀ d ∈ l, d < 256) (hbig : l.length ≤ 1099511627776) :
    Calls Tryd.prog 120 #[v] w (RetNat w (lo8 l)) := by
  obtain ⟨a1, p1, rfl, hnc1, hcm1, hcl⟩ := SliceAt.open1 h
  unfold maxLen at hcm1
  obtain ⟨w0, hmk, hw0⟩ := make_full el_bytes w .i64 .i64 l.length (by omega) (by decide)
  have hblk0 := Blk.newA w 5 (madeCells #[Value.int IntKind.u8 0] l.length)
  rw [toList_madeCells_one] at hblk0
  have hbm := (Below.refl w.heap.size w).alloc (Nat.le_refl _) (.cells (madeCells #[Value.int IntKind.u8 0] l.length) 5)
  have hw0' : w0 = w.alloc (.cells (madeCells #[Value.int IntKind.u8 0] l.length) 5) := by rw [hw0]; simp [Value.cells]
  rw [← hw0'] at hblk0 hbm
  clear h hw0 hw0'
  go_enter Tryd.func120, Tryd.ntmps120
  go_wp2
  go_loopw [4] (fun q wr => ∃ (k : Nat) (cs : List Value), q = .int .i64 k ∧ k ≤ l.length ∧ Blk wr w.heap.size 5 cs ∧ cs.length = l.length ∧ cs.drop (l.length - k) = byteVals ((l.take k).reverse.map UInt8.ofNat) ∧ Below w.heap.size w wr) (fun q _ => l.length - (intOf q).toNat)
  case atStart => exact ⟨0, _, rfl, Nat.zero_le _, hblk0, by simp, by simp [byteVals], hbm⟩
  case round =>
    obtain ⟨k, cs, rfl, hk, hblk, hcs, hdr, hbr⟩ := hrel
    clear hmk hblk0 hbm
    by_cases h0 : k < l.length
    · obtain ⟨b1, o1, rfl, hc1⟩ := hcl k h0
      have hc1r := (ext_cell hbr _ (by rw [hc1]; simp)).trans hc1
      have hx : l.getD k default < 256 := hl _ (by rw [List.getD_eq_getElem?_getD, List.getElem?_eq_getElem h0]; exact List.getElem_mem h0)
      have htk : (l.take (k + 1)).reverse.map UInt8.ofNat = UInt8.ofNat (l.getD k default) :: (l.take k).reverse.map UInt8.ofNat := by
        rw [List.take_add_one, List.getElem?_eq_getElem h0, List.getD_eq_getElem?_getD, List.getElem?_eq_getElem h0, Option.toList_some, List.reverse_append, List.reverse_singleton, List.singleton_append, List.map_cons]; rfl
      generalize l.getD k default = x at *
      have hcell : wr.cell? ⟨w.heap.size, l.length - 1 - k, none⟩ = some (cs[l.length - 1 - k]'(by omega)) := hblk.cell _ _
      have hfr : wr.frozen? ⟨w.heap.size, l.length - 1 - k, none⟩ = false := hblk.frozen _
      generalize cs[l.length - 1 - k]'(by omega) = cx at hcell
      have H : Hid (Blk wr w.heap.size 5 cs ∧ cs.length = l.length ∧ cs.drop (l.length - k) = byteVals ((l.take k).reverse.map UInt8.ofNat) ∧ (l.take (k + 1)).reverse.map UInt8.ofNat = UInt8.ofNat x :: (l.take k).reverse.map UInt8.ofNat) := ⟨hblk, hcs, hdr, htk⟩
      clear hblk hcs hdr htk hcl hc1 hl
      go_wp2
      obtain ⟨hblk, hcs, hdr, htk⟩ := H.out
      refine ⟨⟨k + 1, _, rfl, by omega, hblk.set _ _, by simpa using hcs, ?_, hbr.setCell (Nat.le_refl _) _⟩, by simp [intOf]; omega⟩
      rw [show l.length - (k + 1) = l.length - 1 - k by omega, List.drop_eq_getElem_cons (by simp; omega), htk]
      simp only [List.getElem_set_self, byteVals, List.map_cons]
      rw [show l.length - 1 - k + 1 = l.length - k by omega, List.drop_set_of_lt (by omega), hdr]
      rw [show (UInt8.ofNat x).toNat = x by simp; omega]
      rfl
    · obtain rfl : k = l.length := by omega
      have hv := nv_rev l hl
      have hsl : SliceAt wr (.slice (some ⟨w.heap.size, 0, none⟩) l.length l.length) 1 (byteVals (l.reverse.map UInt8.ofNat)) := by
        have e : cs = byteVals (l.reverse.map UInt8.ofNat) := by simpa using hdr
        rw [← e]; exact SliceAt.blk hblk hcs (by unfold maxLen; omega)
      have hconv := conv_bytes (P := Tryd.prog) hsl 130 5 49 Tryd.underlying130 Tryd.underlying5 Tryd.underlying49
      have hsz : (⟨(l.reverse.map UInt8.ofNat).toArray⟩ : ByteArray).size ≤ maxLen := by
        show (l.reverse.map UInt8.ofNat).toArray.size ≤ maxLen
        rw [List.size_toArray]; simp; unfold maxLen; omega
      have hT := fun w => rtrim_any _ w hsz
      have HV : Hid (vn ⟨(l.reverse.map UInt8.ofNat).toArray⟩ = lo8 l) := hv
      rw [HV.out] at hT
      have HT := Lib.hid hT
      clear hT hsl hdr hblk hcl hv hl hsz HV
      generalize (⟨(l.reverse.map UInt8.ofNat).toArray⟩ : ByteArray) = S at *
      go_wp2_with (go_at_call 47; refine (HT.out _).mono ?_; rintro e w' ⟨rfl, rfl⟩)
      go_ret
      exact ⟨rfl, hbr⟩

theorem lo8_lt (l : List Nat) (h : ∀ d ∈ l, d < 256) : lo8 l < 256 ^ l.length := by
  induction l with
  | nil => simp [lo8]
  | cons d l ih =>
    have h1 := h d (List.mem_cons_self ..)
    have h2 := ih fun x hx => h x (List.mem_cons_of_mem _ hx)
    rw [lo8, List.length_cons, Nat.pow_succ]; omega
theorem mod_step (A i : Nat) : A % 256 ^ (i + 1) = A % 256 ^ i + 256 ^ i * (A / 256 ^ i % 256) := by rw [Nat.pow_succ, Nat.mod_mul]
theorem radd_step (A B i c : Nat) (ds : List Nat) (hl : ds.length = i) (h : lo8 ds + 256 ^ i * c = A % 256 ^ i + B % 256 ^ i) (N : Nat) (hN : N = c + A / 256 ^ i % 256 + B / 256 ^ i % 256) :
    lo8 (ds ++ [N % 256]) + 256 ^ (i + 1) * (N / 256) = A % 256 ^ (i + 1) + B % 256 ^ (i + 1) := by
  rw [mod_step A, mod_step B, lo8_snoc, hl, Nat.pow_succ]
  have e : 256 ^ i * N = 256 ^ i * (N % 256) + 256 ^ i * 256 * (N / 256) := by
    rw [Nat.mul_assoc, ← Nat.mul_add, Nat.mod_add_div]
  have e2 : 256 ^ i * N = 256 ^ i * c + 256 ^ i * (A / 256 ^ i % 256) + 256 ^ i * (B / 256 ^ i % 256) := by rw [hN, Nat.mul_add, Nat.mul_add]
  omega

theorem take_set_snoc {cs : List Value} {i : Nat} {ds : List Nat} (hi : i < cs.length) (h : cs.take i = intVals ds) (hl : ds.length = i) (d : Nat) (u : Value) (hu : u = .int .i64 (d : Nat)) :
    (cs.set i u).take (i + 1) = intVals (ds ++ [d]) := by
  rw [List.take_add_one, List.take_set_of_le (Nat.le_refl _), h]
  rw [List.getElem?_set_self hi, hu]
  simp [intVals]

set_option maxRecDepth 100000 in
set_option maxHeartbeats 2000000 in
theorem radd_any (a b : ByteArray) (w : World) (ha : a.size ≤ 274877906944) (hb : b.size ≤ 274877906944) :
    Calls Tryd.prog 50 #[.string a, .string b] w (RetNat w (vn a + vn b)) := by
  obtain ⟨n, hn⟩ : ∃ n, n = max a.size b.size := ⟨_, rfl⟩
  have hna : vn a < 256 ^ n := Nat.lt_of_lt_of_le (vn_lt a) (Nat.pow_le_pow_right (by omega) (by omega))
  have hnb : vn b < 256 ^ n := Nat.lt_of_lt_of_le (vn_lt b) (Nat.pow_le_pow_right (by omega) (by omega))
  have hn' : n ≤ 274877906944 := by omega
  obtain ⟨w0, hmk, hw0⟩ := make_full el_ints w .i64 .i64 (n + 1) (by omega) (by decide)
  have hblk0 := Blk.newA w 3 (madeCells #[Value.int IntKind.i64 0] (n + 1))
  rw [toList_madeCells_one] at hblk0
  have hbm := (Below.refl w.heap.size w).alloc (Nat.le_refl _) (.cells (madeCells #[Value.int IntKind.i64 0] (n + 1)) 3)
  have hw0' : w0 = w.alloc (.cells (madeCells #[Value.int IntKind.i64 0] (n + 1)) 3) := by rw [hw0]; simp [Value.cells]
  rw [← hw0'] at hblk0 hbm
  clear hw0 hw0'
  have HD1 := fun i h w => digit_any a i w (by unfold maxLen; omega) h
  have HD2 := fun i h w => digit_any b i w (by unfold maxLen; omega) h
  have D1 := Lib.hid HD1
  have D2 := Lib.hid HD2
  clear HD1 HD2
  have HB : Hid (vn a < 256 ^ n ∧ vn b < 256 ^ n) := ⟨hna, hnb⟩
  clear hna hnb
  have hlen : ((n + 1 : Nat) : Int) = (n : Int) + 1 := by omega
  rw [hlen] at hmk
  by_cases hab : a.size < b.size
  · obtain rfl : n = b.size := by omega
    clear hn
    go_enter Tryd.func50, Tryd.ntmps50
    go_wp2
    go_loopw [7, 8] (fun c q wr => ∃ (k cc : Nat) (cs : List Value) (ds : List Nat), q = .int .i64 k ∧ k ≤ b.size + 1 ∧ c = .int .i64 cc ∧ cc ≤ 1 ∧ Blk wr w.heap.size 3 cs ∧ cs.length = b.size + 1 ∧ cs.take k = intVals ds ∧ ds.length = k ∧ (∀ d ∈ ds, d < 256) ∧ lo8 ds + 256 ^ k * cc = vn a % 256 ^ k + vn b % 256 ^ k ∧ Below w.heap.size w wr) (fun _ q _ => b.size + 1 - (intOf q).toNat)
    case atStart => exact ⟨0, 0, _, [], rfl, Nat.zero_le _, rfl, by omega, hblk0, by simp, by simp [intVals], rfl, by simp, by simp [lo8, Nat.mod_one], hbm⟩
    case round =>
      obtain ⟨k, cc, cs, ds, rfl, hk, rfl, hcc, hblk, hcs, htk, hdl, hds, hlo, hbr⟩ := hrel
      clear hmk hblk0 hbm
      by_cases h0 : k ≤ b.size
      · have d1 := D1.out k (by omega)
        have d2 := D2.out k (by omega)
        have hst := radd_step (vn a) (vn b) k cc ds hdl hlo
        have hx : vn a / 256 ^ k % 256 < 256 := Nat.mod_lt _ (by omega)
        have hy : vn b / 256 ^ k % 256 < 256 := Nat.mod_lt _ (by omega)
        generalize vn a / 256 ^ k % 256 = x at *
        generalize vn b / 256 ^ k % 256 = y at *
        have hst2 := hst _ rfl
        have hcell : wr.cell? ⟨w.heap.size, k, none⟩ = some (cs[k]'(by omega)) := hblk.cell _ _
        have hfr : wr.frozen? ⟨w.heap.size, k, none⟩ = false := hblk.frozen _
        generalize cs[k]'(by omega) = cx at hcell
        have H : Hid (Blk wr w.heap.size 3 cs ∧ cs.length = b.size + 1 ∧ cs.take k = intVals ds ∧ ds.length = k ∧ (∀ d ∈ ds, d < 256) ∧ lo8 (ds ++ [(cc + x + y) % 256]) + 256 ^ (k + 1) * ((cc + x + y) / 256) = vn a % 256 ^ (k + 1) + vn b % 256 ^ (k + 1)) := ⟨hblk, hcs, htk, hdl, hds, hst2⟩
        have G1 := Lib.hid d1
        have G2 := Lib.hid d2
        clear hblk hcs htk hdl hds hst2 hst hlo d1 d2
        go_wp2_with fail
        refine (G1.out _).mono ?_; rintro e w' ⟨rfl, rfl⟩
        go_wp2_with fail
        refine (G2.out _).mono ?_; rintro e w' ⟨rfl, rfl⟩
        go_wp2_with fail
        obtain ⟨hblk, hcs, htk, hdl, hds, hst⟩ := H.out
        refine ⟨⟨k + 1, (cc + x + y) / 256, _, ds ++ [(cc + x + y) % 256], rfl, by omega, by go_num, by omega, hblk.set _ _, by simpa using hcs, take_set_snoc (by omega) htk hdl _ _ (by go_num), by simp [hdl], ?_, hst, hbr.setCell (Nat.le_refl _) _⟩, by simp [intOf]; omega⟩
        intro d hd
        rcases List.mem_append.1 hd with hd | hd
        · exact hds d hd
        · have := List.mem_singleton.1 hd; omega
      · obtain rfl : k = b.size + 1 := by omega
        obtain ⟨hA, hB⟩ := HB.out
        have hp : 256 ^ (b.size + 1) = 256 ^ b.size * 256 := Nat.pow_succ ..
        rw [Nat.mod_eq_of_lt (a := vn a) (by omega), Nat.mod_eq_of_lt (a := vn b) (by omega)] at hlo
        have hcc0 : cc = 0 := by
          rcases Nat.eq_zero_or_pos cc with h | h
          · exact h
          · obtain rfl : cc = 1 := by omega
            omega
        subst hcc0
        have hcse : cs = intVals ds := by rw [← htk, List.take_of_length_le (by omega)]
        have hP := pack_any ds _ wr (hcse ▸ SliceAt.blk hblk hcs (by unfold maxLen; omega)) hds (by omega)
        rw [show lo8 ds = vn a + vn b by omega] at hP
        have HP := Lib.hid hP
        clear hblk hcs htk hdl hds hlo hP hA hB hp hcse
        go_wp2_with fail
        refine HP.out.mono ?_; rintro e w' ⟨rfl, hb'⟩
        go_wp2_with fail
        go_ret
        exact ⟨rfl, hbr.trans (hb'.mono hbr.size)⟩
  · obtain rfl : n = a.size := by omega
    clear hn
    go_enter Tryd.func50, Tryd.ntmps50
    go_wp2
    go_loopw [7, 8] (fun c q wr => ∃ (k cc : Nat) (cs : List Value) (ds : List Nat), q = .int .i64 k ∧ k ≤ a.size + 1 ∧ c = .int .i64 cc ∧ cc ≤ 1 ∧ Blk wr w.heap.size 3 cs ∧ cs.length = a.size + 1 ∧ cs.take k = intVals ds ∧ ds.length = k ∧ (∀ d ∈ ds, d < 256) ∧ lo8 ds + 256 ^ k * cc = vn a % 256 ^ k + vn b % 256 ^ k ∧ Below w.heap.size w wr) (fun _ q _ => a.size + 1 - (intOf q).toNat)
    case atStart => exact ⟨0, 0, _, [], rfl, Nat.zero_le _, rfl, by omega, hblk0, by simp, by simp [intVals], rfl, by simp, by simp [lo8, Nat.mod_one], hbm⟩
    case round =>
      obtain ⟨k, cc, cs, ds, rfl, hk, rfl, hcc, hblk, hcs, htk, hdl, hds, hlo, hbr⟩ := hrel
      clear hmk hblk0 hbm
      by_cases h0 : k ≤ a.size
      · have d1 := D1.out k (by omega)
        have d2 := D2.out k (by omega)
        have hst := radd_step (vn a) (vn b) k cc ds hdl hlo
        have hx : vn a / 256 ^ k % 256 < 256 := Nat.mod_lt _ (by omega)
        have hy : vn b / 256 ^ k % 256 < 256 := Nat.mod_lt _ (by omega)
        generalize vn a / 256 ^ k % 256 = x at *
        generalize vn b / 256 ^ k % 256 = y at *
        have hst2 := hst _ rfl
        have hcell : wr.cell? ⟨w.heap.size, k, none⟩ = some (cs[k]'(by omega)) := hblk.cell _ _
        have hfr : wr.frozen? ⟨w.heap.size, k, none⟩ = false := hblk.frozen _
        generalize cs[k]'(by omega) = cx at hcell
        have H : Hid (Blk wr w.heap.size 3 cs ∧ cs.length = a.size + 1 ∧ cs.take k = intVals ds ∧ ds.length = k ∧ (∀ d ∈ ds, d < 256) ∧ lo8 (ds ++ [(cc + x + y) % 256]) + 256 ^ (k + 1) * ((cc + x + y) / 256) = vn a % 256 ^ (k + 1) + vn b % 256 ^ (k + 1)) := ⟨hblk, hcs, htk, hdl, hds, hst2⟩
        have G1 := Lib.hid d1
        have G2 := Lib.hid d2
        clear hblk hcs htk hdl hds hst2 hst hlo d1 d2
        go_wp2_with fail
        refine (G1.out _).mono ?_; rintro e w' ⟨rfl, rfl⟩
        go_wp2_with fail
        refine (G2.out _).mono ?_; rintro e w' ⟨rfl, rfl⟩
        go_wp2_with fail
        obtain ⟨hblk, hcs, htk, hdl, hds, hst⟩ := H.out
        refine ⟨⟨k + 1, (cc + x + y) / 256, _, ds ++ [(cc + x + y) % 256], rfl, by omega, by go_num, by omega, hblk.set _ _, by simpa using hcs, take_set_snoc (by omega) htk hdl _ _ (by go_num), by simp [hdl], ?_, hst, hbr.setCell (Nat.le_refl _) _⟩, by simp [intOf]; omega⟩
        intro d hd
        rcases List.mem_append.1 hd with hd | hd
        · exact hds d hd
        · have := List.mem_singleton.1 hd; omega
      · obtain rfl : k = a.size + 1 := by omega
        obtain ⟨hA, hB⟩ := HB.out
        have hp : 256 ^ (a.size + 1) = 256 ^ a.size * 256 := Nat.pow_succ ..
        rw [Nat.mod_eq_of_lt (a := vn a) (by omega), Nat.mod_eq_of_lt (a := vn b) (by omega)] at hlo
        have hcc0 : cc = 0 := by
          rcases Nat.eq_zero_or_pos cc with h | h
          · exact h
          · obtain rfl : cc = 1 := by omega
            omega
        subst hcc0
        have hcse : cs = intVals ds := by rw [← htk, List.take_of_length_le (by omega)]
        have hP := pack_any ds _ wr (hcse ▸ SliceAt.blk hblk hcs (by unfold maxLen; omega)) hds (by omega)
        rw [show lo8 ds = vn a + vn b by omega] at hP
        have HP := Lib.hid hP
        clear hblk hcs htk hdl hds hlo hP hA hB hp hcse
        go_wp2_with fail
        refine HP.out.mono ?_; rintro e w' ⟨rfl, hb'⟩
        go_wp2_with fail
        go_ret
        exact ⟨rfl, hbr.trans (hb'.mono hbr.size)⟩
end Go.Proofs.YtbpdgfilffdegaaDoor
