/- Where the ball comes: walked. Conditions: sets below 256. -/
import Derived.Test.YtgjnbcfencallaaDoorZGrM
set_option linter.unusedVariables false
set_option linter.unusedSimpArgs false
namespace Go.Proofs.YtgjnbcfencallaaDoor
open Go Go.RowKit
def eV (p:Nd):FV:=.agg [I (p.1:Int),Bo p.2]
def EI (E:List Nd) (k:Nat) (N:List Nd) (i:Nat):List Nd:=if i=0 then E else E.take k++N.take i
theorem EI_take {E:List Nd} {k i:Nat} {N:List Nd} (hk:k≤E.length) (hi:i≤N.length):(EI E k N i).take (k+i)=E.take k++N.take i:=by
 unfold EI
 split
 ·rename_i h;subst h;simp
 ·rw [List.take_of_length_le]
  rw [List.length_append,List.length_take,List.length_take];omega
theorem EI_len {E:List Nd} {k i:Nat} {N:List Nd} (hk:k≤E.length) (hi:i≤N.length):k+i≤(EI E k N i).length:=by
 unfold EI
 split
 ·omega
 ·rw [List.length_append,List.length_take,List.length_take];omega
theorem EI_next {E:List Nd} {k i:Nat} {N:List Nd} {p:Nd} (hk:k≤E.length) (hp:N[i]?=some p):(EI E k N i).take (k+i)++[p]=EI E k N (i+1):=by
 have hi:=(List.getElem?_eq_some_iff.1 hp).1
 rw [EI_take hk (by omega)]
 unfold EI
 rw [if_neg (by omega),List.take_add_one,hp,List.append_assoc];rfl
def tdL (d:Bool) (s i:Nat):List FV:=((els s).take i).map fun v=>eV (v,d)
theorem tdL_next {d:Bool} {s i v:Nat} (h:(els s)[i]?=some v):tdL d s i++[.agg [I (v:Int),Bo d]]=tdL d s (i+1):=by
 unfold tdL;rw [List.take_add_one,h,List.map_append];rfl
theorem tdL_len {d:Bool} {s i:Nat}:(tdL d s i).length≤i:=by
 unfold tdL;rw [List.length_map,List.length_take];omega
theorem tdL_map {d:Bool} {s i:Nat}:tdL d s i=(((els s).take i).map fun v=>(v,d)).map eV:=by unfold tdL;rw [List.map_map];rfl
set_option maxRecDepth 100000 in
set_option maxHeartbeats 8000000 in
theorem reach_ex {n x z : Nat} {P : List Nat} (hg : GP n P) (hx : ∀ v, x.testBit v = true → v < n) (hz : ∀ v, z.testBit v = true → v < n) (g : Nat) (hgot : IsGot P n x z g) : Good Tryd.prog 42 [.fz 1 (P.map U), U x, U z] (U g) := by
  have hl := hg.len
  have hn8 := hg.n8
  have hz8 : z < 256 := lt256 fun v hv => by have := hz v hv; omega
  have hx8 : x < 256 := lt256 fun v hv => by have := hx v hv; omega
  have hok : enterOk Tryd.prog 45 = true := by kernel_rfl
  have hab := above_w hg hz
  have hsl : (P.map U).length = n := by rw [List.length_map, hl]
  have hz0 : List.replicate n (AV.f (FV.v (.int .u64 0))) = ((kdL P n 0 0).map U).map .f := by rw [kdL_zero, List.map_replicate, List.map_replicate]; rfl
  refine goodX_of Tryd.func42 rfl (by kernel_rfl) fun X hO hrd hX => ?_; rw [Tryd.ntmps42, Tryd.results42]; simp only [ast0, List.map_cons, List.map_nil, List.length_cons, List.length_nil, Nat.reduceAdd, Nat.reduceSub, List.replicate_succ, List.replicate_zero, List.cons_append, List.nil_append]
  (repeat (first | (with_reducible first | refine W_seq fun K hK => ?_ | refine J_block ?_ | refine J_region ?_  | (refine Kont.go (by assumption) ?_) | (simp (config := { maxSteps := 3000000 }) (disch := omega) only [go_sem, ↓reduceIte, hsl, hz0])) | refine And.intro (by omega) ?_))
  refine W_loop [8, 9, 10, 24, 25, 26, 27, 28, 29, 30, 31, 32, 33, 34, 35, 36, 37, 38, 39, 40] (fun x : Nat => [(24, .f (I x))]) (fun x : Nat => [some ⟨56, 1, ((kdL P n x 0).map U).map .f⟩, some ⟨52, 1, [.own 0 1 0 n]⟩]) (fun x : Nat => x ≤ n) (fun x : Nat => n - x) (0) (Nat.zero_le _) (by refine weak_of ?_ ?_ <;> simp (disch := omega) only [go_sem, Nat.reduceAdd] <;> first | rfl | exact ⟨rfl, rfl⟩ | exact Or.inl rfl | exact ⟨Or.inl rfl, Or.inl rfl⟩ | trivial | assumption | omega | (symm; assumption) | ((repeat' apply And.intro) <;> first | rfl | omega | trivial | exact .inl rfl | exact .inr ⟨rfl, rfl⟩ | exact .inr rfl | (right; symm; assumption) | (symm; assumption) | assumption)) ?_
  rintro v hv
  simp only [go_sem]
  (repeat (with_reducible first | refine W_seq fun K hK => ?_ | refine J_region ?_  | refine J_c ?_ | (refine Kont.go (by assumption) ?_) | (simp (config := { maxSteps := 3000000 }) (disch := omega) only [go_sem])))
  refine Jc_if (fun hvn => ?_) (fun hvn => ?_) <;> try simp only [decide_eq_true_eq, decide_eq_false_iff_not] at hvn
  · have gv := sets_get (P := P) (v := v) (by omega)
    have hit := all_iter (P.getD v 0) hg.lt8
    (repeat (with_reducible first | refine W_seq fun K hK => ?_ | refine J_block ?_ | refine J_skip ?_ | refine J_region ?_  | (refine Kont.go (by assumption) ?_) | (simp (config := { maxSteps := 3000000 }) (disch := omega) only [go_sem, ↓reduceIte, Nat.reduceAdd, gv])))
    refine J_rangeW hrd [10, 31, 32, 33, 34, 35, 36, 37, 38, 39] (fun i => [some ⟨56, 1, ((kdL P n v i).map U).map .f⟩, some ⟨52, 1, [.own 0 1 0 n]⟩, some ⟨3, 1, [.f (I (v : Int))]⟩]) rfl (hit) (by kernel_rfl) (by refine weak_of ?_ ?_ <;> simp (disch := omega) only [go_sem, Nat.reduceAdd] <;> first | rfl | exact ⟨rfl, rfl⟩ | trivial | ((repeat' apply And.intro) <;> first | rfl | trivial | exact .inl rfl | exact .inr ⟨rfl, rfl⟩ | exact .inr rfl)) (by decide) (by kernel_rfl) (by kernel_rfl) ?_ ?_
    · rintro i y hy X1 hX1 K hK
      obtain ⟨u, rfl, hu8, hus, hui, htk⟩ := els_take hy
      have hun := (hg.pa u v hus).1
      have gu : (((kdL P n v i).map U).map AV.f)[u]? = some (.f (U (kdS P n v i u))) := by
        rw [List.getElem?_map, sets_get (by rw [kdL_len]; exact hun), kdL_get hun]; rfl
      have hsu := u_shl (v := v) (by omega)
      have ho2 := u_or (kdS_lt (P := P) (v := v) (i := i) (u := u) hn8) (bit_lt (v := v) (by omega))
      rw [kdS_step hvn hui] at ho2
      have hst := kdL_step hvn hui hun
      have hml : (((kdL P n v i).map U).map AV.f).length = n := by rw [List.length_map, List.length_map, kdL_len]
      simp only [go_sem]
      (repeat (with_reducible first | refine J_region ?_  | (refine Kont.go (by assumption) ?_) | (simp (config := { maxSteps := 3000000 }) (disch := omega) only [go_sem])))
      intro X2 hX2
      (repeat (first | (with_reducible first | refine J_block ?_ | refine J_drawn mixed (by kernel_rfl) ?_ | (simp (config := { maxSteps := 3000000 }) (disch := omega) only [go_sem, ↓reduceIte, gu, hsu, ho2, hst])) | refine And.intro (by omega) ?_))
      refine rpost_n (weak_of ?_ ?_) <;> (try simp (disch := omega) only [go_sem, Nat.reduceAdd]) <;> (try first | done | omega | rfl | exact ⟨rfl, rfl⟩ | trivial)
    · have hel : ((els (P.getD v 0)).map Int.ofNat).length = (els (P.getD v 0)).length := by rw [List.length_map]
      rw [hel, kdL_all hg]
      simp only [go_sem]
      (repeat (with_reducible first | refine J_region ?_  | (refine Kont.go (by assumption) ?_) | (simp (config := { maxSteps := 3000000 }) (disch := omega) only [go_sem])))
      refine ⟨v + 1, by omega, by omega, weak_of ?_ ?_⟩ <;> (try simp (disch := omega) only [go_sem, Nat.reduceAdd]) <;> (try first | done | omega | rfl | exact ⟨rfl, rfl⟩ | trivial)
  · have he : v = n := by omega
    subst he
    have hkl : ((kdL P v v 0).map U).length = v := by rw [List.length_map, kdL_len]
    refine J_exit ?_
    simp only [go_sem, ↓reduceIte]
    refine Kont.go (by assumption) ?_
    refine J_freezeA (r := 0) rfl ?_
    simp only [go_sem, Nat.reduceEqDiff, kdL_len]
    refine J_JH hX ?_
    (repeat (with_reducible first | refine HW_seq fun K hK => ?_ | refine JH_region ?_ | refine aopsX_go ?_ rfl rfl | (simp (config := { maxSteps := 3000000 }) (disch := omega) only [go_sem])))
    (first | refine call_f (hab) rfl ?_ | refine callQ_f (hab) rfl ?_ | refine callHK_f (hab) rfl ?_ | refine callH_f (hab) rfl ?_)
    (repeat (with_reducible first | (simp (config := { maxSteps := 3000000 }) (disch := omega) only [go_sem])))
    refine aopsX_make fun b hb0 => ?_
    rw [show Hd.put (fun _ => none) b (.map #[] 0) = Hd.one b (mobj []) from rfl]
    (repeat (with_reducible first | refine HW_seq fun K hK => ?_ | refine HW_block ?_ | refine JH_region ?_ | refine aopsX_go ?_ rfl rfl | (refine KontH.go (by assumption) ?_) | (simp (config := { maxSteps := 3000000 }) (disch := omega) only [go_sem, Nat.reduceAdd])))
    have hitx := all_iter x hx8
    have hxl := els_len (s := x)
    have hrd0 := hrd
    refine JH_J ?_
    have hrd : (X.wh (Hd.one b (mobj []))).rd = none := hrd0
    refine J_reserve ?_
    refine J_rangeW hrd [15, 47, 48, 49, 50, 51, 52] (fun i => [none, some ⟨52, 1, [.f (.fz 1 ((kdL P v v 0).map U))]⟩, some ⟨88, 1, [sl 3 2 (tdL true x i)]⟩, ob 90 2 (tdL true x i)]) rfl (hitx) (by kernel_rfl) (by refine weak_of ?_ ?_ <;> simp (disch := omega) only [go_sem, Nat.reduceAdd] <;> first | rfl | exact ⟨rfl, rfl⟩ | trivial | ((repeat' apply And.intro) <;> first | rfl | trivial | exact .inl rfl | exact .inr ⟨rfl, rfl⟩ | exact .inr rfl)) (by decide) (by kernel_rfl) (by kernel_rfl) ?_ ?_
    · rintro i y hy X1 hX1 K hK
      obtain ⟨u, rfl, hu8, hus, hui, htk⟩ := els_take hy
      have hi8 : i < 8 := by have := (List.getElem?_eq_some_iff.1 hui).1; omega
      have htl := tdL_len (d := true) (s := x) (i := i)
      have hap : ((tdL true x i).length + 1) * 16 ≤ 140737488355328 := by omega
      have hsn := tdL_next (d := true) hui
      simp only [go_sem]
      (repeat (with_reducible first | refine J_region ?_  | (refine Kont.go (by assumption) ?_) | (simp (config := { maxSteps := 3000000 }) (disch := omega) only [go_sem])))
      intro X2 hX2
      (repeat (first | (with_reducible first | refine J_block ?_ | refine J_region ?_  | refine aApp_sl ?_ | (simp (config := { maxSteps := 3000000 }) (disch := omega) only [go_sem, Nat.reduceEqDiff, ↓reduceIte, Nat.reduceAdd, Nat.reduceLeDiff, hap, hsn])) | refine And.intro (by omega) ?_))
      refine rpost_n (weak_of ?_ ?_) <;> (try simp (disch := omega) only [go_sem, Nat.reduceAdd]) <;> (try first | done | omega | rfl | exact ⟨rfl, rfl⟩ | trivial)
    · have hel : ((els x).map Int.ofNat).length = (els x).length := by rw [List.length_map]
      rw [hel]
      simp only [go_sem]
      refine KontH.go (by assumption) ?_
      by_cases hx0 : els x = []
      · have hnil : tdL true x (els x).length = [] := by unfold tdL; rw [hx0]; rfl
        have hsl0 : sl 3 2 ([] : List FV) = AV.f nilV := rfl
        have hob0 : ob 90 2 [] = none := rfl
        rw [hnil, hsl0, hob0]
        (repeat (with_reducible first | refine HW_seq fun K hK => ?_ | refine HW_block ?_))
        refine HW_loop [13, 16, 17, 18, 53, 54, 55, 56, 57, 58, 59, 60, 61, 62, 63, 64, 65, 66, 67, 68, 69, 70, 71, 72, 73, 74, 75, 76, 77, 78, 79, 80, 81, 82, 83, 84, 85, 86, 87, 88, 89, 90, 91, 92, 93, 94, 95, 96, 97, 98, 99, 100, 101, 102, 103, 104, 105, 106, 107, 108, 109, 110, 111, 112, 113, 114, 115, 116, 117, 118, 119, 120, 121, 122, 123, 124, 125, 126] (fun q : Unit => Hd.one b (mobj [])) (fun q : Unit => [(13, .f (U 0))]) (fun q : Unit => [none, some ⟨52, 1, [.f (.fz 1 ((kdL P v v 0).map U))]⟩, some ⟨88, 1, [.f nilV]⟩]) (fun q : Unit => True) (fun q : Unit => 0) (()) (trivial) rfl (by refine weak_of ?_ ?_ <;> simp (disch := omega) only [go_sem, Nat.reduceAdd] <;> first | rfl | exact ⟨rfl, rfl⟩ | exact Or.inl rfl | exact ⟨Or.inl rfl, Or.inl rfl⟩ | trivial | assumption | omega | (symm; assumption) | ((repeat' apply And.intro) <;> first | rfl | omega | trivial | exact .inr ⟨rfl, rfl⟩ | exact .inr rfl | (right; symm; assumption) | (symm; assumption) | assumption)) ?_
        intro q _
        simp only [go_sem, Nat.reduceLT]
        (repeat (with_reducible first | refine HW_seq fun K hK => ?_ | refine JH_region ?_ | refine aopsX_go ?_ rfl rfl | (refine KontH.go (by assumption) ?_) | (simp (config := { maxSteps := 3000000 }) (disch := omega) only [go_sem, ↓reduceIte])))
        refine JH_cond rfl (fun ht => by simp at ht) (fun _ => ?_)
        have hgz : g = 0 := by
          have h1 := Srch.init (P := P) (z := z) hx hn8
          rw [hx0] at h1
          exact hgot.uniq h1.done
        (repeat (with_reducible first | refine HW_seq fun K hK => ?_ | refine JH_exit ?_ | refine JH_ret ?_ | refine JH_region ?_ | refine aopsX_go ?_ rfl rfl | (refine KontH.go (by assumption) ?_) | (simp (config := { maxSteps := 3000000 }) (disch := omega) only [go_sem, ↓reduceIte])))
        rw [hgz]; exact Frz.f _
      · obtain ⟨k0, hk0⟩ : ∃ k0, k0 = (els x).length := ⟨_, rfl⟩
        have hkp : 0 < k0 := by rw [hk0]; exact List.length_pos_iff.2 hx0
        have htd : tdL true x (els x).length = (((els x).map fun v => (v, true)).map eV) := by rw [tdL_map, List.take_length]
        have hne : tdL true x (els x).length ≠ [] := fun e => by
          rw [htd] at e
          have := congrArg List.length e
          simp at this; exact hx0 this
        have hlen : (tdL true x (els x).length).length = k0 := by rw [htd]; simp [hk0]
        rw [sl_pos hne, ob_pos hne, hlen, htd]
        (repeat (with_reducible first | refine HW_seq fun K hK => ?_ | refine HW_block ?_))
        refine HW_loop [13, 16, 17, 18, 53, 54, 55, 56, 57, 58, 59, 60, 61, 62, 63, 64, 65, 66, 67, 68, 69, 70, 71, 72, 73, 74, 75, 76, 77, 78, 79, 80, 81, 82, 83, 84, 85, 86, 87, 88, 89, 90, 91, 92, 93, 94, 95, 96, 97, 98, 99, 100, 101, 102, 103, 104, 105, 106, 107, 108, 109, 110, 111, 112, 113, 114, 115, 116, 117, 118, 119, 120, 121, 122, 123, 124, 125, 126] (fun q : List Nd × List Nd × Nat × Nat => Hd.one b (mobj q.1)) (fun q : List Nd × List Nd × Nat × Nat => [(13, .f (U q.2.2.2))]) (fun q : List Nd × List Nd × Nat × Nat => [none, some ⟨52, 1, [.f (.fz 1 ((kdL P v v 0).map U))]⟩, some ⟨88, 1, [.own 3 2 0 q.2.2.1]⟩, some ⟨90, 2, (q.2.1.map eV).map .f⟩]) (fun q : List Nd × List Nd × Nat × Nat => q.2.2.1 ≤ q.2.1.length ∧ Srch P v x z q.1 (q.2.1.take q.2.2.1) q.2.2.2) (fun q : List Nd × List Nd × Nat × Nat => (16 - q.1.length) * 17 + q.2.2.1) (([], (els x).map fun v => (v, true), k0, 0)) (⟨by simp [hk0], by simp only; rw [hk0, List.take_of_length_le (by simp)]; exact Srch.init hx hn8⟩) rfl (by refine weak_of ?_ ?_ <;> simp (disch := omega) only [go_sem, Nat.reduceAdd] <;> first | rfl | exact ⟨rfl, rfl⟩ | exact Or.inl rfl | exact ⟨Or.inl rfl, Or.inl rfl⟩ | trivial | assumption | omega | (symm; assumption) | ((repeat' apply And.intro) <;> first | rfl | omega | trivial | exact .inr ⟨rfl, rfl⟩ | exact .inr rfl | (right; symm; assumption) | (symm; assumption) | assumption)) ?_
        rintro ⟨L, E, k, got⟩ ⟨hk, hS⟩
        simp only at hk hS
        have hL16 := hS.len hn8
        have hg8 := hS.glt hn8
        have htlS := hS.tl
        rw [List.length_take] at htlS
        simp only [go_sem]
        (repeat (with_reducible first | refine HW_seq fun K hK => ?_ | refine JH_region ?_ | refine aopsX_go ?_ rfl rfl | (refine KontH.go (by assumption) ?_) | (simp (config := { maxSteps := 3000000 }) (disch := omega) only [go_sem, ↓reduceIte])))
        refine JH_cond rfl (fun ht => ?_) (fun hf => ?_)
        · have hkp2 : 0 < (k : Int) := by simpa using ht
          obtain ⟨m, rfl⟩ : ∃ m, k = m + 1 := ⟨k - 1, by omega⟩
          obtain ⟨⟨t0, d0⟩, hp⟩ : ∃ p, E[m]? = some p := ⟨_, List.getElem?_eq_getElem (by omega)⟩
          have htk : E.take (m + 1) = E.take m ++ [(t0, d0)] := by rw [List.take_add_one, hp]; rfl
          rw [htk] at hS
          have hpn : t0 < v := (hS.ball (t0, d0) (.inr (by simp))).1
          have hc1 : ((m + 1 : Nat) : Int) - 1 = (m : Int) := by omega
          have hgp : ((E.map eV).map AV.f)[m]? = some (.f (.agg [I (t0 : Int), Bo d0])) := by rw [List.getElem?_map, List.getElem?_map, hp]; rfl
          have hm0 : ((m : Int) - 0).toNat = m := by omega
          (repeat (first | (with_reducible first | refine HW_seq fun K hK => ?_ | refine HW_block ?_ | refine JH_skip ?_ | refine JH_region ?_ | refine aopsX_go ?_ rfl rfl | (refine KontH.go (by assumption) ?_) | (simp (config := { maxSteps := 3000000 }) (disch := omega) only [go_sem, ↓reduceIte, Nat.reduceAdd, Int.reduceLE, hc1, hgp, hm0])) | refine And.intro (by omega) ?_))
          by_cases hpl : (t0, d0) ∈ L
          · refine aopsX_look rfl Hd.one_self rfl rfl (look_yes hpl) ?_
            (repeat (with_reducible first | refine aopsX_go ?_ rfl rfl | (refine KontH.go (by assumption) ?_) | (simp (config := { maxSteps := 3000000 }) (disch := omega) only [go_sem, Int.reduceLT])))
            refine JH_cond rfl (fun _ => ?_) (fun h => by simp at h)
            (repeat (with_reducible first | refine JH_exit ?_ | (simp (config := { maxSteps := 3000000 }) (disch := omega) only [go_sem, ↓reduceIte])))
            refine ⟨(L, E, m, got), ⟨by simp only; omega, hS.skip hpl⟩, by simp only; omega, rfl, weak_of ?_ ?_⟩ <;> (try simp (disch := omega) only [go_sem, Nat.reduceAdd]) <;> (try first | done | omega | rfl | exact ⟨rfl, rfl⟩ | trivial)
          · refine aopsX_look rfl Hd.one_self rfl rfl (look_no hpl) ?_
            (repeat (with_reducible first | refine aopsX_go ?_ rfl rfl | (refine KontH.go (by assumption) ?_) | (simp (config := { maxSteps := 3000000 }) (disch := omega) only [go_sem])))
            refine JH_cond rfl (fun h => by simp at h) (fun _ => ?_)
            (repeat (with_reducible first | refine HW_seq fun K hK => ?_ | refine JH_skip ?_ | refine JH_region ?_ | refine aopsX_go ?_ rfl rfl | (refine KontH.go (by assumption) ?_) | (simp (config := { maxSteps := 3000000 }) (disch := omega) only [go_sem, ↓reduceIte, Nat.reduceAdd])))
            refine aopsX_upd rfl Hd.one_self hb0 rfl rfl rfl rfl (upd_no hpl) ⟨_, _, rfl⟩ ?_
            rw [Hd.one_put]
            have hh := has_w (v := t0) hz8 (by omega)
            (repeat (with_reducible first | refine HW_seq fun K hK => ?_ | refine JH_region ?_ | refine aopsX_go ?_ rfl rfl | (refine KontH.go (by assumption) ?_) | (simp (config := { maxSteps := 3000000 }) (disch := omega) only [go_sem, ↓reduceIte])))
            (first | refine call_f (hh) rfl ?_ | refine callQ_f (hh) rfl ?_ | refine callHK_f (hh) rfl ?_ | refine callH_f (hh) rfl ?_)
            (repeat (with_reducible first | refine aopsX_go ?_ rfl rfl | (refine KontH.go (by assumption) ?_) | (simp (config := { maxSteps := 3000000 }) (disch := omega) only [go_sem])))
            refine HW_mask [53, 54, 55, 56, 57, 58, 59, 60, 61, 62, 63, 64, 65, 66, 67, 68, 69, 70, 71, 72, 73, 74, 75, 76] (by refine weak_of ?_ ?_ <;> simp (disch := omega) only [go_sem, Nat.reduceAdd] <;> first | rfl | exact ⟨rfl, rfl⟩ | exact Or.inl rfl | exact ⟨Or.inl rfl, Or.inl rfl⟩ | trivial | assumption | omega | (symm; assumption) | ((repeat' apply And.intro) <;> first | rfl | omega | trivial | exact .inr ⟨rfl, rfl⟩ | exact .inr rfl | (right; symm; assumption) | (symm; assumption) | assumption)) ?_; simp only [go_sem]
            refine HW_join (by assumption) [13, 17, 78, 79, 80, 81, 82, 83, 84, 85, 86, 87, 88, 89, 90, 91, 92, 93, 94] (fun q : List Nd × Nat × Nat => [(13, .f (U q.2.2))]) (fun q : List Nd × Nat × Nat => [none, some ⟨52, 1, [.f (.fz 1 ((kdL P v v 0).map U))]⟩, some ⟨88, 1, [.own 3 2 0 q.2.1]⟩, some ⟨90, 2, (q.1.map eV).map .f⟩, some ⟨90, 2, [.f (.agg [I (t0 : Int), Bo d0])]⟩]) (fun q : List Nd × Nat × Nat => q.2.1 ≤ q.1.length ∧ q.1.take q.2.1 = E.take m ++ nxD P v z (t0, d0) ∧ q.2.2 = if z.testBit t0 = true then got else got ||| bit t0) ?_ ?_
            · refine JH_cond rfl (fun ht => ?_) (fun hf => ?_)
              · have hzf : z.testBit t0 = false := by simpa using ht
                have hsh := u_shl (v := t0) (by omega)
                have hor := u_or hg8 (bit_lt (v := t0) (by omega))
                have gk := sets_get (P := kdL P v v 0) (v := t0) (by rw [kdL_len]; exact hpn)
                obtain ⟨kd, hkd⟩ : ∃ kd, kd = (kdL P v v 0).getD t0 0 := ⟨_, rfl⟩
                have hkd8 : kd < 256 := by rw [hkd, kdL_get hpn]; exact kdS_lt hn8
                have hkdl := els_len (s := kd)
                have hitk := all_iter kd hkd8
                obtain ⟨N, hN⟩ : ∃ N, N = (els kd).map fun k => (k, false) := ⟨_, rfl⟩
                have hNl : N.length = (els kd).length := by rw [hN, List.length_map]
                have hnx : nxD P v z (t0, d0) = N := by
                  unfold nxD
                  rw [if_neg (by simp only; rw [hzf]; decide), hN, hkd]
                have hmE : m ≤ E.length := by omega
                rw [← hkd] at gk
                (repeat (with_reducible first | refine HW_seq fun K hK => ?_ | refine HW_block ?_ | refine JH_region ?_ | refine aopsX_go ?_ rfl rfl | (refine KontH.go (by assumption) ?_) | (simp (config := { maxSteps := 3000000 }) (disch := omega) only [go_sem, ↓reduceIte, hsh, hor, gk])))
                refine JH_J ?_
                have hrd : (X.wh (Hd.one b (mobj (L ++ [(t0, d0)])))).rd = none := hrd0
                refine J_rangeW hrd [17, 89, 90, 91, 92, 93, 94] (fun i => [none, some ⟨52, 1, [.f (.fz 1 ((kdL P v v 0).map U))]⟩, some ⟨88, 1, [.own 3 2 0 (m + i)]⟩, some ⟨90, 2, ((EI E m N i).map eV).map .f⟩, some ⟨90, 2, [.f (.agg [I (t0 : Int), Bo d0])]⟩]) rfl (hitk) (by kernel_rfl) (by refine weak_of ?_ ?_ <;> simp (disch := omega) only [go_sem, Nat.reduceAdd] <;> first | rfl | exact ⟨rfl, rfl⟩ | trivial | ((repeat' apply And.intro) <;> first | rfl | trivial | exact .inl rfl | exact .inr ⟨rfl, rfl⟩ | exact .inr rfl)) (by decide) (by kernel_rfl) (by kernel_rfl) ?_ ?_
                · rintro i y hy X1 hX1 K hK
                  obtain ⟨u, rfl, hu8, hus, hui, htk2⟩ := els_take hy
                  have hiN : i < N.length := by rw [hNl]; exact (List.getElem?_eq_some_iff.1 hui).1
                  have hNi : N[i]? = some (u, false) := by rw [hN, List.getElem?_map, hui]; rfl
                  have hlen1 : m + i ≤ (EI E m N i).length := EI_len hmE (by omega)
                  have hap : (m + i + 1) * 16 ≤ 140737488355328 := by omega
                  have hsn : (((EI E m N i).map eV).map AV.f).take (m + i) ++ [AV.f (.agg [I (u : Int), Bo false])] = ((EI E m N (i + 1)).map eV).map .f := by
                    rw [← EI_next hmE hNi, List.map_append, List.map_append, List.map_take, List.map_take]; rfl
                  have hmi : m + (i + 1) = m + i + 1 := by omega
                  simp only [go_sem]
                  (repeat (with_reducible first | refine J_region ?_  | (refine Kont.go (by assumption) ?_) | (simp (config := { maxSteps := 3000000 }) (disch := omega) only [go_sem])))
                  intro X2 hX2
                  (repeat (first | (with_reducible first | refine J_block ?_ | refine J_region ?_  | refine aApp_old ?_ | (simp (config := { maxSteps := 3000000 }) (disch := omega) only [go_sem, Nat.reduceEqDiff, ↓reduceIte, Nat.reduceAdd, Nat.reduceLeDiff, hap, hsn, hlen1])) | refine And.intro (by omega) ?_))
                  refine rpost_n ?_; refine weak_ren [0, 1, 2, 6, 4] ⟨by decide, by first | decide | (simp; done)⟩ ?_ ?_ <;> (try simp (disch := omega) only [go_sem, Nat.reduceAdd, hmi]) <;> (try first | done | omega | rfl | exact ⟨rfl, rfl⟩ | trivial)
                · have hel : ((els kd).map Int.ofNat).length = N.length := by rw [List.length_map, hNl]
                  rw [hel]
                  simp only [go_sem]
                  (first | refine ⟨(EI E m N N.length, m + N.length, got ||| bit t0), ⟨EI_len hmE (Nat.le_refl _), by rw [hnx]; simp only; rw [EI_take hmE (Nat.le_refl _), List.take_length], by simp only; rw [if_neg (by rw [hzf]; decide)]⟩, rfl, weak_of ?_ ?_⟩ | refine ⟨(EI E m N N.length, m + N.length, got ||| bit t0), ⟨EI_len hmE (Nat.le_refl _), by rw [hnx]; simp only; rw [EI_take hmE (Nat.le_refl _), List.take_length], by simp only; rw [if_neg (by rw [hzf]; decide)]⟩, weak_of ?_ ?_⟩) <;> (try simp (disch := omega) only [go_sem, Nat.reduceAdd]) <;> (try first | done | omega | rfl | exact ⟨rfl, rfl⟩ | trivial)
              · have hzt : z.testBit t0 = true := by simpa using hf
                (repeat (with_reducible first | refine JH_skip ?_ | (simp (config := { maxSteps := 3000000 }) (disch := omega) only [go_sem])))
                (first | refine ⟨(E, m, got), ⟨by simp only; omega, by simp only; unfold nxD; rw [if_pos hzt, List.append_nil], by simp only; rw [if_pos hzt]⟩, rfl, weak_of ?_ ?_⟩ | refine ⟨(E, m, got), ⟨by simp only; omega, by simp only; unfold nxD; rw [if_pos hzt, List.append_nil], by simp only; rw [if_pos hzt]⟩, weak_of ?_ ?_⟩) <;> (try simp (disch := omega) only [go_sem, Nat.reduceAdd]) <;> (try first | done | omega | rfl | exact ⟨rfl, rfl⟩ | trivial)
            · rintro ⟨E1, k1, g1⟩ ⟨h1, h2, h3⟩
              simp only at h1 h2 h3
              have hS2 := hS.next hg hpl
              rw [← List.append_assoc, ← h2, ← h3] at hS2
              have hab8 : abv P v z < 256 := setB_lt hn8
              have hho := has_w (v := t0) hab8 (by omega)
              have hao : (abv P v z).testBit t0 = anO P v z t0 := by rw [abv_bit, decide_eq_true hpn, Bool.true_and]
              rw [hao] at hho
              have hL1 : L.length + 1 ≤ 16 := by have := hS2.len hn8; rw [List.length_append] at this; exact this
              have hE1 : k1 ≤ 400 := by
                have := hS2.tl
                rw [List.length_append, List.length_append, List.length_take] at this
                simp only [List.length_cons, List.length_nil] at this
                omega
              have hk1m : k1 ≤ m + 8 := by
                have e := congrArg List.length h2
                rw [List.length_take, List.length_append, List.length_take] at e
                have : (nxD P v z (t0, d0)).length ≤ 8 := by
                  unfold nxD
                  split
                  · simp
                  · rw [List.length_map]; exact els_len
                omega
              have hms : ∀ k2, k2 ≤ k1 + 8 → (16 - (L ++ [(t0, d0)]).length) * 17 + k2 < (16 - L.length) * 17 + (m + 1) := fun k2 h => by
                rw [List.length_append]
                simp only [List.length_cons, List.length_nil]
                omega
              have nU : (d0 && !z.testBit t0 || (!d0 && anO P v z t0)) = false → nxU P v z (t0, d0) = [] := fun h => by
                unfold nxU; rw [if_neg (by simp only; rw [h]; decide)]
              have hcs : (d0 = true ∧ z.testBit t0 = false) ∨ (d0 = false ∧ anO P v z t0 = true) ∨ (d0 = true ∧ z.testBit t0 = true) ∨ (d0 = false ∧ anO P v z t0 = false) := by
                cases d0 <;> cases z.testBit t0 <;> cases anO P v z t0 <;> simp
              simp only [go_sem]
              rcases hcs with ⟨rfl, e1⟩ | ⟨rfl, e1⟩ | ⟨rfl, e1⟩ | ⟨rfl, e1⟩
              rotate_left 2
              · refine HW_seq fun K hK => ?_
                refine JH_J ?_
                (repeat (with_reducible first | refine J_region ?_  | (simp (config := { maxSteps := 3000000 }) (disch := omega) only [go_sem, ↓reduceIte, true_and])))
                (first | refine call_f (hh) rfl ?_ | refine callQ_f (hh) rfl ?_ | refine callHK_f (hh) rfl ?_ | refine callH_f (hh) rfl ?_)
                (repeat (with_reducible first | (simp (config := { maxSteps := 3000000 }) (disch := omega) only [go_sem, ↓reduceIte, e1, true_and])))
                refine KontH.go (by assumption) ?_
                refine JH_cond rfl (fun h => by simp at h) (fun _ => ?_)
                have hnu := nU (by rw [e1]; rfl)
                rw [hnu, List.append_nil] at hS2
                (repeat (with_reducible first | refine JH_skip ?_ | (simp (config := { maxSteps := 3000000 }) (disch := omega) only [go_sem])))
                refine ⟨(L ++ [(t0, true)], E1, k1, g1), ⟨h1, hS2⟩, hms k1 (by omega), rfl, weak_of ?_ ?_⟩ <;> (try simp (disch := omega) only [go_sem, Nat.reduceAdd]) <;> (try first | done | omega | rfl | exact ⟨rfl, rfl⟩ | trivial)
              · refine HW_seq fun K hK => ?_
                refine JH_J ?_
                (repeat (with_reducible first | refine J_region ?_  | (simp (config := { maxSteps := 3000000 }) (disch := omega) only [go_sem, ↓reduceIte, true_and])))
                (first | refine call_f (hho) rfl ?_ | refine callQ_f (hho) rfl ?_ | refine callHK_f (hho) rfl ?_ | refine callH_f (hho) rfl ?_)
                (repeat (with_reducible first | (simp (config := { maxSteps := 3000000 }) (disch := omega) only [go_sem, e1])))
                refine KontH.go (by assumption) ?_
                refine JH_cond rfl (fun h => by simp at h) (fun _ => ?_)
                have hnu := nU (by rw [e1]; rfl)
                rw [hnu, List.append_nil] at hS2
                (repeat (with_reducible first | refine JH_skip ?_ | (simp (config := { maxSteps := 3000000 }) (disch := omega) only [go_sem])))
                refine ⟨(L ++ [(t0, false)], E1, k1, g1), ⟨h1, hS2⟩, hms k1 (by omega), rfl, weak_of ?_ ?_⟩ <;> (try simp (disch := omega) only [go_sem, Nat.reduceAdd]) <;> (try first | done | omega | rfl | exact ⟨rfl, rfl⟩ | trivial)
              all_goals
                have gp := sets_get (P := P) (v := t0) (by omega)
                obtain ⟨kd, hkd⟩ : ∃ kd, kd = P.getD t0 0 := ⟨_, rfl⟩
                have hkd8 : kd < 256 := by rw [hkd]; exact hg.lt8
                have hkdl := els_len (s := kd)
                have hitk := all_iter kd hkd8
                rw [← hkd] at gp
                obtain ⟨N, hN⟩ : ∃ N, N = (els kd).map fun k => (k, true) := ⟨_, rfl⟩
                have hNl : N.length = (els kd).length := by rw [hN, List.length_map]
                refine HW_seq fun K hK => ?_
                refine JH_J ?_
                (repeat (with_reducible first | refine J_region ?_  | (simp (config := { maxSteps := 3000000 }) (disch := omega) only [go_sem, ↓reduceIte, true_and])))
                first
                | (first | refine call_f (hh) rfl ?_ | refine callQ_f (hh) rfl ?_ | refine callHK_f (hh) rfl ?_ | refine callH_f (hh) rfl ?_)
                | (first | refine call_f (hho) rfl ?_ | refine callQ_f (hho) rfl ?_ | refine callHK_f (hho) rfl ?_ | refine callH_f (hho) rfl ?_)
                (repeat (with_reducible first | (simp (config := { maxSteps := 3000000 }) (disch := omega) only [go_sem, e1])))
                refine KontH.go (by assumption) ?_
                refine JH_cond rfl (fun _ => ?_) (fun h => by simp at h)
                (repeat (with_reducible first | refine HW_seq fun K hK => ?_ | refine HW_block ?_ | refine JH_region ?_ | refine aopsX_go ?_ rfl rfl | (refine KontH.go (by assumption) ?_) | (simp (config := { maxSteps := 3000000 }) (disch := omega) only [go_sem, ↓reduceIte, gp])))
                refine HW_mask [16, 95, 96, 97, 98, 99, 100, 101, 102, 103, 104, 105, 106, 107, 108, 109, 110, 111, 112, 113, 114, 115, 116, 117, 118] (by refine weak_of ?_ ?_ <;> simp (disch := omega) only [go_sem, Nat.reduceAdd] <;> first | rfl | exact ⟨rfl, rfl⟩ | exact Or.inl rfl | exact ⟨Or.inl rfl, Or.inl rfl⟩ | trivial | assumption | omega | (symm; assumption) | ((repeat' apply And.intro) <;> first | rfl | omega | trivial | exact .inr ⟨rfl, rfl⟩ | exact .inr rfl | (right; symm; assumption) | (symm; assumption) | assumption)) ?_; simp only [go_sem]
                refine JH_J ?_
                (first
                | (have hrd : (X.wh (Hd.one b (mobj (L ++ [(t0, true)])))).rd = none := hrd0
                   refine J_rangeW hrd [18, 121, 122, 123, 124, 125, 126] (fun i => [none, some ⟨52, 1, [.f (.fz 1 ((kdL P v v 0).map U))]⟩, some ⟨88, 1, [.own 3 2 0 (k1 + i)]⟩, some ⟨90, 2, ((EI E1 k1 N i).map eV).map .f⟩]) rfl (hitk) (by kernel_rfl) (by refine weak_of ?_ ?_ <;> simp (disch := omega) only [go_sem, Nat.reduceAdd] <;> first | rfl | exact ⟨rfl, rfl⟩ | trivial | ((repeat' apply And.intro) <;> first | rfl | trivial | exact .inl rfl | exact .inr ⟨rfl, rfl⟩ | exact .inr rfl)) (by decide) (by kernel_rfl) (by kernel_rfl) ?_ ?_)
                | (have hrd : (X.wh (Hd.one b (mobj (L ++ [(t0, false)])))).rd = none := hrd0
                   refine J_rangeW hrd [18, 121, 122, 123, 124, 125, 126] (fun i => [none, some ⟨52, 1, [.f (.fz 1 ((kdL P v v 0).map U))]⟩, some ⟨88, 1, [.own 3 2 0 (k1 + i)]⟩, some ⟨90, 2, ((EI E1 k1 N i).map eV).map .f⟩]) rfl (hitk) (by kernel_rfl) (by refine weak_of ?_ ?_ <;> simp (disch := omega) only [go_sem, Nat.reduceAdd] <;> first | rfl | exact ⟨rfl, rfl⟩ | trivial | ((repeat' apply And.intro) <;> first | rfl | trivial | exact .inl rfl | exact .inr ⟨rfl, rfl⟩ | exact .inr rfl)) (by decide) (by kernel_rfl) (by kernel_rfl) ?_ ?_))
                · rintro i y hy X1 hX1 K hK
                  obtain ⟨u, rfl, hu8, hus, hui, htk2⟩ := els_take hy
                  have hiN : i < N.length := by rw [hNl]; exact (List.getElem?_eq_some_iff.1 hui).1
                  have hNi : N[i]? = some (u, true) := by rw [hN, List.getElem?_map, hui]; rfl
                  have hlen1 : k1 + i ≤ (EI E1 k1 N i).length := EI_len h1 (by omega)
                  have hap : (k1 + i + 1) * 16 ≤ 140737488355328 := by omega
                  have hsn : (((EI E1 k1 N i).map eV).map AV.f).take (k1 + i) ++ [AV.f (.agg [I (u : Int), Bo true])] = ((EI E1 k1 N (i + 1)).map eV).map .f := by
                    rw [← EI_next h1 hNi, List.map_append, List.map_append, List.map_take, List.map_take]; rfl
                  have hmi : k1 + (i + 1) = k1 + i + 1 := by omega
                  simp only [go_sem]
                  (repeat (with_reducible first | refine J_region ?_  | (refine Kont.go (by assumption) ?_) | (simp (config := { maxSteps := 3000000 }) (disch := omega) only [go_sem])))
                  intro X2 hX2
                  (repeat (first | (with_reducible first | refine J_block ?_ | refine J_region ?_  | refine aApp_old ?_ | (simp (config := { maxSteps := 3000000 }) (disch := omega) only [go_sem, Nat.reduceEqDiff, ↓reduceIte, Nat.reduceAdd, Nat.reduceLeDiff, hap, hsn, hlen1])) | refine And.intro (by omega) ?_))
                  refine rpost_n ?_; refine weak_ren [0, 1, 2, 5] ⟨by decide, by first | decide | (simp; done)⟩ ?_ ?_ <;> (try simp (disch := omega) only [go_sem, Nat.reduceAdd, hmi]) <;> (try first | done | omega | rfl | exact ⟨rfl, rfl⟩ | trivial)
                · have hel : ((els kd).map Int.ofNat).length = N.length := by rw [List.length_map, hNl]
                  rw [hel]
                  have hnu : ∀ d, (d && !z.testBit t0 || (!d && anO P v z t0)) = true → nxU P v z (t0, d) = N := fun d hd => by
                    unfold nxU
                    rw [if_pos hd, hN, hkd]
                  rw [hnu _ (by rw [e1]; rfl), ← List.take_length (l := N), ← EI_take h1 (Nat.le_refl _)] at hS2
                  simp only [go_sem]
                  refine ⟨(_, EI E1 k1 N N.length, k1 + N.length, g1), ⟨EI_len h1 (Nat.le_refl _), hS2⟩, hms (k1 + N.length) (by omega), rfl, weak_of ?_ ?_⟩ <;> (try simp (disch := omega) only [go_sem, Nat.reduceAdd]) <;> (try first | done | omega | rfl | exact ⟨rfl, rfl⟩ | trivial)
        · have hk0' : k = 0 := by simp at hf; omega
          subst hk0'
          have hgg := hgot.uniq hS.done
          (repeat (with_reducible first | refine HW_seq fun K hK => ?_ | refine JH_exit ?_ | refine JH_ret ?_ | refine JH_region ?_ | refine aopsX_go ?_ rfl rfl | (refine KontH.go (by assumption) ?_) | (simp (config := { maxSteps := 3000000 }) (disch := omega) only [go_sem, ↓reduceIte, Nat.reduceLT])))
          rw [hgg]; exact Frz.f _
end Go.Proofs.YtgjnbcfencallaaDoor
