/- Slices of fractions, and the walks of frac.Sum and of the law's count of bytes. Conditions: parts within 2^35 bytes all together. -/
import Derived.Test.YtlloghbaggdhnaaDoorFracV
import Derived.Test.YtlloghbaggdhnaaDoorSt
import Derived.RegionTactic
import Derived.Deep.QuietTactic
import Derived.BigQuiet
set_option linter.unusedVariables false
set_option linter.unusedSimpArgs false
namespace Go.Proofs.YtlloghbaggdhnaaDoor
open Go Go.RowKit
open Go.IntWalk (wrap64_in)

/-- Three fields of a fraction. -/
abbrev F3 := Bool × ByteArray × ByteArray
def cells3 (x : F3) : List Value := [.bool x.1, .string x.2.1, .string x.2.2]
def rv3 (x : F3) : Rat := rv x.1 x.2.1 x.2.2
/-- A slice of fractions. -/
def Fl (w : World) (v : Value) (l : List F3) : Prop := SliceAt w v 3 (l.flatMap cells3)
theorem flat_len (l : List F3) : (l.flatMap cells3).length = l.length * 3 := by
  induction l with
  | nil => rfl
  | cons x l ih => rw [List.flatMap_cons, List.length_append, ih, List.length_cons, Nat.add_mul]; simp [cells3]; omega
theorem flat_get (l : List F3) (i j : Nat) (hi : i < l.length) (hj : j < 3) : (l.flatMap cells3)[i * 3 + j]? = (cells3 l[i])[j]? := by
  induction l generalizing i with
  | nil => simp at hi
  | cons x l ih =>
    rw [List.flatMap_cons]
    cases i with
    | zero => rw [List.getElem?_append_left (by simp [cells3]; omega)]; simp
    | succ i =>
      rw [List.getElem?_append_right (by simp [cells3]; omega)]
      rw [show (i + 1) * 3 + j - (cells3 x).length = i * 3 + j by simp [cells3]; omega, ih i (by simpa using hi)]
      simp
theorem Fl.open {w : World} {v : Value} {l : List F3} (h : Fl w v l) : ∃ a cap, v = .slice a l.length cap ∧ l.length ≤ cap ∧ cap ≤ maxLen ∧
    ∀ i (hi : i < l.length), ∃ b off, a = some ⟨b, off, none⟩ ∧ w.cell? ⟨b, off + i * 3, none⟩ = some (.bool l[i].1) ∧ w.cell? ⟨b, off + i * 3 + 1, none⟩ = some (.string l[i].2.1) ∧ w.cell? ⟨b, off + i * 3 + 2, none⟩ = some (.string l[i].2.2) := by
  obtain ⟨n, cap, hm, hnc, hcm, hl, h⟩ := h
  rw [flat_len] at hl
  obtain rfl : l.length = n := by omega
  rcases h with ⟨h0, a, rfl⟩ | ⟨b, off, rfl, hc⟩
  · exact ⟨a, cap, by rw [h0], hnc, hcm, fun i hi => by omega⟩
  · refine ⟨_, cap, rfl, hnc, hcm, fun i hi => ⟨b, off, rfl, ?_, ?_, ?_⟩⟩
    · have := hc (i * 3 + 0) (by rw [flat_len]; omega)
      rw [← List.getElem?_eq_getElem, flat_get l i 0 hi (by omega)] at this
      exact this
    · have := hc (i * 3 + 1) (by rw [flat_len]; omega)
      rw [← List.getElem?_eq_getElem, flat_get l i 1 hi (by omega)] at this
      rw [Nat.add_assoc]; exact this
    · have := hc (i * 3 + 2) (by rw [flat_len]; omega)
      rw [← List.getElem?_eq_getElem, flat_get l i 2 hi (by omega)] at this
      rw [Nat.add_assoc]; exact this
/-- A list of three, written out. -/
theorem Fl.lit3 {w : World} {b : Nat} (hb : b = w.heap.size) (e : TypeId) (g1 : Bool) (n1 d1 : ByteArray) (g2 : Bool) (n2 d2 : ByteArray) (g3 : Bool) (n3 d3 : ByteArray) :
    Fl (w.alloc (.cells #[.bool g1, .string n1, .string d1, .bool g2, .string n2, .string d2, .bool g3, .string n3, .string d3] e)) (.slice (some ⟨b, 0, none⟩) 3 3) [(g1, n1, d1), (g2, n2, d2), (g3, n3, d3)] := by
  subst hb
  exact SliceAt.lit w e 3 3 #[.bool g1, .string n1, .string d1, .bool g2, .string n2, .string d2, .bool g3, .string n3, .string d3] rfl (by decide)
theorem Fl.drew {w : World} {v : Value} {l : List F3} (h : Fl w v l) : Fl w.drew v l := SliceAt.of_cells h (fun _ _ => rfl)
theorem Fl.lit3d {w : World} {b : Nat} (hb : b = w.heap.size) (e : TypeId) (g1 : Bool) (n1 d1 : ByteArray) (g2 : Bool) (n2 d2 : ByteArray) (g3 : Bool) (n3 d3 : ByteArray) :
    Fl (w.alloc (.cells #[.bool g1, .string n1, .string d1, .bool g2, .string n2, .string d2, .bool g3, .string n3, .string d3] e)).drew (.slice (some ⟨b, 0, none⟩) 3 3) [(g1, n1, d1), (g2, n2, d2), (g3, n3, d3)] := (Fl.lit3 hb e g1 n1 d1 g2 n2 d2 g3 n3 d3).drew
theorem Fl.ext {w w' : World} {v : Value} {l : List F3} (h : Fl w v l) (hb : Below w.heap.size w w') : Fl w' v l := SliceAt.ext h hb


/-- The three cells of a rational. -/
def c3 (q : Rat) : List Value := [.bool (cg q), .string (cn q), .string (cd q)]
def psum (l : List F3) (i : Nat) : Rat := ((l.take i).map rv3).foldl (· + ·) 0
theorem psum_zero (l : List F3) : psum l 0 = 0 := rfl
theorem psum_succ (l : List F3) (i : Nat) (hi : i < l.length) : psum l (i + 1) = psum l i + rv3 l[i] := by
  unfold psum; rw [List.take_succ_eq_append_getElem hi, List.map_append, List.foldl_append]; rfl
theorem psum_all (l : List F3) : psum l l.length = (l.map rv3).foldl (· + ·) 0 := by unfold psum; rw [List.take_length]
theorem psum_fz (l : List F3) {k : Nat} (h0 : 1 ≤ k) (hl : ∀ x ∈ l, x.2.1.size ≤ k ∧ x.2.2.size ≤ k) (i : Nat) (hi : i ≤ l.length) : Fz (psum l i) (i * (k + 1) + 8) := by
  induction i with
  | zero => rw [psum_zero]; exact Fz.up (show Fz 0 8 from (Fz.int (n := 0) (by decide))) (by omega)
  | succ i ih =>
    rw [psum_succ l i (by omega)]
    obtain ⟨h1, h2⟩ := hl l[i] (List.getElem_mem _)
    have hx : Fz (rv3 l[i]) k := Fr.fz ⟨_, _, _, rfl, rfl, h1, h2⟩ h0
    exact ((ih (by omega)).add hx).up (by rw [Nat.add_mul]; omega)
/-- What is read of a list's elements, in a later world. -/
theorem el3 {w wr : World} {b off i : Nat} {x : F3} (hb : Below w.heap.size w wr) (c0 : w.cell? ⟨b, off + i * 3, none⟩ = some (.bool x.1)) (c1 : w.cell? ⟨b, off + i * 3 + 1, none⟩ = some (.string x.2.1)) (c2 : w.cell? ⟨b, off + i * 3 + 2, none⟩ = some (.string x.2.2)) :
    wr.cell? ⟨b, off + i * 3, none⟩ = some (.bool x.1) ∧ wr.cell? ⟨b, off + i * 3 + 1, none⟩ = some (.string x.2.1) ∧ wr.cell? ⟨b, off + i * 3 + 2, none⟩ = some (.string x.2.2) := by
  have hbw : b < w.heap.size := World.block_lt_of_cell? w _ c0
  exact ⟨(hb.cell (p := ⟨b, off + i * 3, none⟩) hbw).trans c0, (hb.cell (p := ⟨b, off + i * 3 + 1, none⟩) hbw).trans c1, (hb.cell (p := ⟨b, off + i * 3 + 2, none⟩) hbw).trans c2⟩
set_option maxRecDepth 100000 in
set_option maxHeartbeats 1000000 in
theorem fsum_any (l : List F3) (v : Value) (w : World) (hv : Fl w v l) {k : Nat} (h0 : 1 ≤ k) (hk : (l.length + 1) * (k + 1) + 8 ≤ 34359738368) (hl : ∀ x ∈ l, x.2.1.size ≤ k ∧ x.2.2.size ≤ k) :
    Calls Tryd.prog 21 #[v] w (RetFr w ((l.map rv3).foldl (· + ·) 0)) := by
  obtain ⟨a, cap, rfl, h1, h2, hc⟩ := hv.open
  have HZ := Lib.hid (fun w => fof_zero w)
  have HL := Lib.hid (And.intro h0 (And.intro hk hl))
  have hlen : l.length ≤ 34359738368 := by
    have := Nat.le_mul_of_pos_right (l.length + 1) (m := k + 1) (by omega)
    omega
  clear h0 hk hl hv
  go_enter Tryd.func21, Tryd.ntmps21
  go_wp2_with fail
  refine (HZ.out _).mono ?_; rintro e w1 ⟨rfl, hb1⟩
  have hS1 := ((St.new w).alloc #[.bool false, .string ⟨#[]⟩, .string ⟨#[]⟩] 24).ext hb1
  go_wp2_with fail
  go_loopw [5, 9] (fun _ s9 wr => ∃ (i : Nat), s9 = .int .i64 i ∧ i ≤ l.length ∧ St w wr [(w.heap.size, 24, [.bool false, .string ⟨#[]⟩, .string ⟨#[]⟩]), (w1.heap.size, 24, c3 (psum l i))]) (fun _ s9 _ => l.length - (intOf s9).toNat)
  case atStart => exact ⟨0, rfl, by omega, by rw [psum_zero, c3, cg_zero, cn_zero, cd_zero]; exact hS1.alloc _ _⟩
  case round =>
    obtain ⟨i, rfl, hi, hS⟩ := hrel
    have hC := hS.c
    simp only [cellsAll, cellsAt, c3, and_true] at hC
    by_cases hlt : i < l.length
    · obtain ⟨b, off, rfl, c0, c1, c2⟩ := hc i hlt
      obtain ⟨p0, p1, p2⟩ := el3 hS.1 c0 c1 c2
      have hik : i * (k + 1) ≤ l.length * (k + 1) := Nat.mul_le_mul_right _ hi
      obtain ⟨h0, hk, hl⟩ := HL.out
      rw [Nat.add_mul] at hk
      have zs := psum_succ l i hlt
      have I1 := Is.c (psum_fz l h0 hl i (by omega))
      have A1 := fun w => fadd_any (cg (psum l i)) (cn (psum l i)) (cd (psum l i)) l[i].1 l[i].2.1 l[i].2.2 w (k := i * (k + 1) + 8 + k) (by omega) (by omega) (by have := I1.2.1; omega) (by have := I1.2.2; omega) (by have := (hl l[i] (List.getElem_mem _)).1; omega) (by have := (hl l[i] (List.getElem_mem _)).2; omega)
      rw [I1.1, show rv l[i].1 l[i].2.1 l[i].2.2 = rv3 l[i] from rfl, ← zs] at A1
      have HM := Lib.hid A1
      clear A1 zs I1 h0 hk hl hik c0 c1 c2
      generalize l[i].1 = gx at *
      generalize l[i].2.1 = nx at *
      generalize l[i].2.2 = dx at *
      generalize hq0 : psum l i = q0 at *
      generalize hq1 : psum l (i + 1) = q1 at *
      have HQ := Lib.hid hq1
      clear hq0 hq1
      have hS2 := hS.alloc #[.bool gx, .string nx, .string dx] 24
      have hC2 := hS2.c
      simp only [cellsAll, cellsAt, c3, and_true, List.cons_append, List.nil_append] at hC2
      go_wp2_with fail
      refine (HM.out _).mono ?_; rintro e w' ⟨rfl, hb⟩
      rw [frv_fv]
      have hS3 := hS2.ext hb
      clear hC hC2 p0 p1 p2
      have hC := hS3.c
      simp only [cellsAll, cellsAt, c3, and_true, List.cons_append, List.nil_append] at hC
      go_wp2_with fail
      refine ⟨⟨i + 1, by simp, by omega, ?_⟩, ?_⟩
      · rw [HQ.out]
        exact (hS3.put3 1 rfl _ _ _).init
      · simp [intOf]; omega
    · obtain rfl : i = l.length := by omega
      clear hlt
      have HE := Lib.hid (psum_all l)
      generalize psum l l.length = q at *
      go_wp2_with fail
      refine bodyPost_ret (results_fc rfl rfl (Fc.put (St.blk hS 0 rfl) _ _ _)) rfl ?_
      refine ⟨?_, (St.put3 hS 0 rfl _ _ _).1⟩
      rw [← HE.out]; rfl

/-- What the laws count of a list of fractions. -/
def fbytes (l : List F3) : Nat := (l.map fun x => 1 + x.2.1.size + x.2.2.size).sum
def pbytes (l : List F3) (i : Nat) : Nat := l.length + ((l.take i).map fun x => x.2.1.size + x.2.2.size).sum
theorem pbytes_succ (l : List F3) (i : Nat) (hi : i < l.length) : pbytes l (i + 1) = pbytes l i + l[i].2.1.size + l[i].2.2.size := by
  unfold pbytes; rw [List.take_succ_eq_append_getElem hi, List.map_append, List.sum_append]; simp; omega
theorem pbytes_all (l : List F3) : pbytes l l.length = fbytes l := by
  unfold pbytes fbytes; rw [List.take_length]
  induction l with
  | nil => rfl
  | cons x l ih => simp at *; omega
theorem pbytes_le (l : List F3) (i : Nat) : l.length ≤ pbytes l i := by unfold pbytes; omega
theorem pbytes_mono (l : List F3) (i j : Nat) (h : i + j ≤ l.length) : pbytes l i ≤ pbytes l (i + j) := by
  induction j with
  | zero => exact Nat.le_refl _
  | succ j ih => rw [← Nat.add_assoc, pbytes_succ l (i + j) (by omega)]; have := ih (by omega); omega
theorem pbytes_fb (l : List F3) (i : Nat) (h : i ≤ l.length) : pbytes l i ≤ fbytes l := by
  have := pbytes_mono l i (l.length - i) (by omega)
  rw [show i + (l.length - i) = l.length by omega, pbytes_all] at this
  exact this
def RetBytes (w : World) (l : List F3) (e : Ending) (w' : World) : Prop := ∃ n : Nat, e = .returned (.int .i64 n) ∧ ((n ≤ 4096 → n = fbytes l) ∧ n ≤ fbytes l) ∧ ∃ m, w' = w.drewN m
set_option maxRecDepth 100000 in
set_option maxHeartbeats 1000000 in
theorem bytes_any (l : List F3) (v : Value) (w : World) (hv : Fl w v l) (hm : l.length ≤ 140737488355328) (hl : ∀ x ∈ l, x.2.1.size ≤ 140737488355328 ∧ x.2.2.size ≤ 140737488355328) :
    Calls Tryd.prog 13 #[v] w (RetBytes w l) := by
  obtain ⟨a, cap, rfl, h1, h2, hc⟩ := hv.open
  have HL := Lib.hid hl
  have HC := Lib.hid hc
  clear hl hv hc
  clear h2
  go_enter Tryd.func13, Tryd.ntmps13
  go_wp2_with fail
  go_loopw [3, 4] (fun s3 s4 wr => ∃ (i m : Nat), s4 = .int .i64 i ∧ i ≤ l.length ∧ s3 = .int .i64 (pbytes l i) ∧ wr = w.drewN m ∧ pbytes l i ≤ 562949953421312) (fun _ s4 _ => l.length - (intOf s4).toNat)
  case atStart => exact ⟨0, 0, rfl, by omega, by simp [pbytes], rfl, by simp [pbytes]; omega⟩
  case round =>
    obtain ⟨i, m, rfl, hi, rfl, rfl, hp⟩ := hrel
    by_cases hlt : i < l.length
    · by_cases hn : pbytes l i ≤ 4096
      · have hs := pbytes_succ l i hlt
        obtain ⟨b, off, rfl, c0, c1, c2⟩ := HC.out i hlt
        have hz := HL.out l[i] (List.getElem_mem _)
        generalize l[i].2.1 = nx at *
        generalize l[i].2.2 = dx at *
        obtain ⟨z1, z2⟩ := hz
        have HS := Lib.hid hs
        have e1 : IntKind.i64.wrap ((pbytes l i : Int) + (nx.size : Int)) = (pbytes l i : Int) + (nx.size : Int) := by rw [IntKind.wrap_i64]; omega
        have e2 : IntKind.i64.wrap ((pbytes l i : Int) + (nx.size : Int) + (dx.size : Int)) = (pbytes l i : Int) + (nx.size : Int) + (dx.size : Int) := by rw [IntKind.wrap_i64]; omega
        clear hs c0
        go_wp2_with fail
        go_quiet (fail)
        go_wp2_with fail
        refine ⟨⟨i + 1, _, by simp, by omega, ?_, rfl, by rw [HS.out]; omega⟩, by simp [intOf]; omega⟩
        rw [HS.out]; simp
      · clear HC
        go_wp2_with fail
        go_ret
        exact ⟨pbytes l i, rfl, ⟨fun h => absurd h hn, pbytes_fb l i hi⟩, _, rfl⟩
    · obtain rfl : i = l.length := by omega
      have HE := Lib.hid (pbytes_all l)
      clear hlt HC
      generalize pbytes l l.length = n at *
      go_wp2_with fail
      go_ret
      exact ⟨n, rfl, ⟨fun _ => HE.out, Nat.le_of_eq HE.out⟩, _, rfl⟩
end Go.Proofs.YtlloghbaggdhnaaDoor
