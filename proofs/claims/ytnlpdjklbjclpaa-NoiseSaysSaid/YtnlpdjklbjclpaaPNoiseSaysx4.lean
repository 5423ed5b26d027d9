-- PRINTED by print.py (a twelfth state) out of the translation. Not trusted: Lean checks it.
import Derived.Test.YtnlpdjklbjclpaaPNoiseSaysx0
import Derived.Test.YtnlpdjklbjclpaaPNoiseSaysx3
namespace Go.Proofs.Ytnlpdjklbjclpaa.PNoiseSays
open Go.RowKit Go.Proofs.YtnlpdjklbjclpaaW.PrintWords Go.Proofs.YtnlpdjklbjclpaaW.PrintLast Go.Proofs.YtnlpdjklbjclpaaW.PrintMore
attribute [local go_sem] setCell_drewN max2_int min2_int max_two min_two max_three min_three max_four min_four   -- for this text's walks alone
set_option linter.unusedVariables false
set_option linter.unusedSimpArgs false
noncomputable section
mutual
def dist_tidy_rest.l0 : Nat → List (S96) → List (S96) → Int → Int → Option ((List (S96)) × Int)
  | 0, _, _, _, _ => none
  | k + 1, x4, x14, x15, x16 => if x16 < x15 then (if 0 ≤ x16 then (if x16 < (x14.length : Int) then (if ((rd_T96 x14 x16).f1) = 0 then (dist_tidy_rest.l0 k x4 x14 x15 (wrap64 (x16 + 1))) else (if (x4.length : Int) > 0 then (if 0 ≤ (wrap64 ((x4.length : Int) - 1)) then (if (wrap64 ((x4.length : Int) - 1)) < (x4.length : Int) then ((slices_Equal_int_int.f k ((rd_T96 x4 (wrap64 ((x4.length : Int) - 1))).f0) ((rd_T96 x14 x16).f0)).bind fun t124 => (if t124 = true then (dist_tidy_rest.l0 k (x4.set ((wrap64 ((x4.length : Int) - 1)) : Int).toNat (⟨(rd_T96 x4 (wrap64 ((x4.length : Int) - 1))).f0, wrap64 (((rd_T96 x4 (wrap64 ((x4.length : Int) - 1))).f1) + ((rd_T96 x14 x16).f1))⟩ : S96)) x14 x15 (wrap64 (x16 + 1))) else (if x4.length < 4398046511104 then (dist_tidy_rest.l0 k (x4 ++ [(⟨(rd_T96 x14 x16).f0, (rd_T96 x14 x16).f1⟩ : S96)]) x14 x15 (wrap64 (x16 + 1))) else (none)))) else (none)) else (none)) else (if x4.length < 4398046511104 then (dist_tidy_rest.l0 k (x4 ++ [(⟨(rd_T96 x14 x16).f0, (rd_T96 x14 x16).f1⟩ : S96)]) x14 x15 (wrap64 (x16 + 1))) else (none)))) else (none)) else (none)) else (if (x4.length : Int) = 0 then (some (([] : List (S96)), 6)) else (dist_tidy_rest.l1 k x4 0 x4 (x4.length : Int) 0))
def dist_tidy_rest.l1 : Nat → List (S96) → Int → List (S96) → Int → Int → Option ((List (S96)) × Int)
  | 0, _, _, _, _, _ => none
  | k + 1, x4, x8, x57, x58, x59 => if x59 < x58 then (if 0 ≤ x59 then (if x59 < (x57.length : Int) then ((dist_gcd.f k x8 ((rd_T96 x57 x59).f1)).bind fun t135 => (dist_tidy_rest.l1 k x4 t135 x57 x58 (wrap64 (x59 + 1)))) else (none)) else (none)) else ((dist_total.f k x4).bind fun t136 => (if x8 = 0 then (none) else (if (wrap64 (Int.tdiv t136 x8)) > 1073741824 then (dist_tidy_rest.j2 k x4 x8 true) else (dist_tidy_rest.j2 k x4 x8 (decide ((x4.length : Int) > 4096))))))
def dist_tidy_rest.j2 : Nat → List (S96) → Int → Bool → Option ((List (S96)) × Int)
  | 0, _, _, _ => none
  | k + 1, x4, x8, x77 => if x77 = true then (some (([] : List (S96)), 4)) else (dist_tidy_rest.l2 k x4 x8 (x4.length : Int) 0)
def dist_tidy_rest.l2 : Nat → List (S96) → Int → Int → Int → Option ((List (S96)) × Int)
  | 0, _, _, _, _ => none
  | k + 1, x4, x8, x79, x80 => if x80 < x79 then (if 0 ≤ x80 then (if x80 < (x4.length : Int) then (if x8 = 0 then (none) else (dist_tidy_rest.l2 k (x4.set (x80 : Int).toNat (⟨(rd_T96 x4 x80).f0, wrap64 (Int.tdiv ((rd_T96 x4 x80).f1) x8)⟩ : S96)) x8 x79 (wrap64 (x80 + 1)))) else (none)) else (none)) else (some (x4, 0))
end
def dist_tidy_rest.f (k : Nat) (l0 : List (S96)) : Option ((List (S96)) × Int) := dist_tidy_rest.l0 k ([] : List (S96)) l0 (l0.length : Int) 0
theorem dist_tidy_rest.mono_l : ∀ k, (∀ y0 y1 y2 y3, LeO (dist_tidy_rest.l0 k y0 y1 y2 y3) (dist_tidy_rest.l0 (k + 1) y0 y1 y2 y3)) ∧ (∀ y0 y1 y2 y3 y4, LeO (dist_tidy_rest.l1 k y0 y1 y2 y3 y4) (dist_tidy_rest.l1 (k + 1) y0 y1 y2 y3 y4)) ∧ (∀ y0 y1 y2, LeO (dist_tidy_rest.j2 k y0 y1 y2) (dist_tidy_rest.j2 (k + 1) y0 y1 y2)) ∧ (∀ y0 y1 y2 y3, LeO (dist_tidy_rest.l2 k y0 y1 y2 y3) (dist_tidy_rest.l2 (k + 1) y0 y1 y2 y3))
  | 0 => ⟨fun _ _ _ _ r h => by simp [dist_tidy_rest.l0] at h, fun _ _ _ _ _ r h => by simp [dist_tidy_rest.l1] at h, fun _ _ _ r h => by simp [dist_tidy_rest.j2] at h, fun _ _ _ _ r h => by simp [dist_tidy_rest.l2] at h⟩
  | k + 1 => by
    obtain ⟨ih0, ih1, ih2, ih3⟩ := dist_tidy_rest.mono_l k
    refine ⟨?_, ?_, ?_, ?_⟩
    · intro y0 y1 y2 y3
      unfold dist_tidy_rest.l0
      repeat' first
      | (with_reducible exact ih0 _ _ _ _)
      | (with_reducible exact ih1 _ _ _ _ _)
      | (with_reducible exact ih2 _ _ _)
      | (with_reducible exact ih3 _ _ _ _)
      | (with_reducible exact dist_gcd.mono _ _ _)
      | (with_reducible exact dist_total.mono _ _)
      | (with_reducible exact slices_Equal_int_int.mono _ _ _)
      | (with_reducible exact LeO.refl _)
      | (with_reducible exact LeO.none _)
      | (with_reducible refine LeO.ite ?_ ?_)
      | (with_reducible refine LeO.bind ?_ (fun _ => ?_))
      | exact ih0 _ _ _ _
      | exact ih1 _ _ _ _ _
      | exact ih2 _ _ _
      | exact ih3 _ _ _ _
      | exact dist_gcd.mono _ _ _
      | exact dist_total.mono _ _
      | exact slices_Equal_int_int.mono _ _ _
      | exact LeO.none _
      | refine LeO.ite ?_ ?_
      | refine LeO.bind ?_ (fun _ => ?_)
    · intro y0 y1 y2 y3 y4
      unfold dist_tidy_rest.l1
      repeat' first
      | (with_reducible exact ih0 _ _ _ _)
      | (with_reducible exact ih1 _ _ _ _ _)
      | (with_reducible exact ih2 _ _ _)
      | (with_reducible exact ih3 _ _ _ _)
      | (with_reducible exact dist_gcd.mono _ _ _)
      | (with_reducible exact dist_total.mono _ _)
      | (with_reducible exact slices_Equal_int_int.mono _ _ _)
      | (with_reducible exact LeO.refl _)
      | (with_reducible exact LeO.none _)
      | (with_reducible refine LeO.ite ?_ ?_)
      | (with_reducible refine LeO.bind ?_ (fun _ => ?_))
      | exact ih0 _ _ _ _
      | exact ih1 _ _ _ _ _
      | exact ih2 _ _ _
      | exact ih3 _ _ _ _
      | exact dist_gcd.mono _ _ _
      | exact dist_total.mono _ _
      | exact slices_Equal_int_int.mono _ _ _
      | exact LeO.none _
      | refine LeO.ite ?_ ?_
      | refine LeO.bind ?_ (fun _ => ?_)
    · intro y0 y1 y2
      unfold dist_tidy_rest.j2
      repeat' first
      | (with_reducible exact ih0 _ _ _ _)
      | (with_reducible exact ih1 _ _ _ _ _)
      | (with_reducible exact ih2 _ _ _)
      | (with_reducible exact ih3 _ _ _ _)
      | (with_reducible exact dist_gcd.mono _ _ _)
      | (with_reducible exact dist_total.mono _ _)
      | (with_reducible exact slices_Equal_int_int.mono _ _ _)
      | (with_reducible exact LeO.refl _)
      | (with_reducible exact LeO.none _)
      | (with_reducible refine LeO.ite ?_ ?_)
      | (with_reducible refine LeO.bind ?_ (fun _ => ?_))
      | exact ih0 _ _ _ _
      | exact ih1 _ _ _ _ _
      | exact ih2 _ _ _
      | exact ih3 _ _ _ _
      | exact dist_gcd.mono _ _ _
      | exact dist_total.mono _ _
      | exact slices_Equal_int_int.mono _ _ _
      | exact LeO.none _
      | refine LeO.ite ?_ ?_
      | refine LeO.bind ?_ (fun _ => ?_)
    · intro y0 y1 y2 y3
      unfold dist_tidy_rest.l2
      repeat' first
      | (with_reducible exact ih0 _ _ _ _)
      | (with_reducible exact ih1 _ _ _ _ _)
      | (with_reducible exact ih2 _ _ _)
      | (with_reducible exact ih3 _ _ _ _)
      | (with_reducible exact dist_gcd.mono _ _ _)
      | (with_reducible exact dist_total.mono _ _)
      | (with_reducible exact slices_Equal_int_int.mono _ _ _)
      | (with_reducible exact LeO.refl _)
      | (with_reducible exact LeO.none _)
      | (with_reducible refine LeO.ite ?_ ?_)
      | (with_reducible refine LeO.bind ?_ (fun _ => ?_))
      | exact ih0 _ _ _ _
      | exact ih1 _ _ _ _ _
      | exact ih2 _ _ _
      | exact ih3 _ _ _ _
      | exact dist_gcd.mono _ _ _
      | exact dist_total.mono _ _
      | exact slices_Equal_int_int.mono _ _ _
      | exact LeO.none _
      | refine LeO.ite ?_ ?_
      | refine LeO.bind ?_ (fun _ => ?_)
theorem dist_tidy_rest.mono : ∀ a0 k, LeO (dist_tidy_rest.f k a0) (dist_tidy_rest.f (k + 1) a0) := by
  intro a0 k
  obtain ⟨ih0, ih1, ih2, ih3⟩ := dist_tidy_rest.mono_l k
  unfold dist_tidy_rest.f
  repeat' first
      | (with_reducible exact ih0 _ _ _ _)
      | (with_reducible exact ih1 _ _ _ _ _)
      | (with_reducible exact ih2 _ _ _)
      | (with_reducible exact ih3 _ _ _ _)
      | (with_reducible exact dist_gcd.mono _ _ _)
      | (with_reducible exact dist_total.mono _ _)
      | (with_reducible exact slices_Equal_int_int.mono _ _ _)
      | (with_reducible exact LeO.refl _)
      | (with_reducible exact LeO.none _)
      | (with_reducible refine LeO.ite ?_ ?_)
      | (with_reducible refine LeO.bind ?_ (fun _ => ?_))
      | exact ih0 _ _ _ _
      | exact ih1 _ _ _ _ _
      | exact ih2 _ _ _
      | exact ih3 _ _ _ _
      | exact dist_gcd.mono _ _ _
      | exact dist_total.mono _ _
      | exact slices_Equal_int_int.mono _ _ _
      | exact LeO.none _
      | refine LeO.ite ?_ ?_
      | refine LeO.bind ?_ (fun _ => ?_)
def dist_tidy_rest.T8 : Bool × List (List Nat × List Nat) := (true, [([], []), ([0], [0]), ([1], [1]), ([2], [2]), ([2], [2]), ([4, 2], [2, 4]), ([3, 5, 2], [2, 3, 5]), ([6, 2], [2, 6]), ([7, 2], [2, 7]), ([2], [2]), ([9, 2], [2, 9]), ([8, 10, 2, 2], [2, 8, 10]), ([2, 11], [2, 11])])
def dist_tidy_rest.B8 : List Nat := [0, 1, 3, 7, 7, 23, 63, 127, 255, 7, 519, 2047, 4095]
theorem dist_tidy_rest.tab8 : rtab .any (opsOf Try.f109 8) = dist_tidy_rest.T8 := by kernel_rfl
theorem dist_tidy_rest.bits8 : waitsOk dist_tidy_rest.T8.2 dist_tidy_rest.B8 = true := by kernel_rfl
def dist_tidy_rest.T9 : Bool × List (List Nat × List Nat) := (true, [([], []), ([], []), ([1], [1]), ([0, 2], [0, 2]), ([3], [3]), ([4], [4]), ([], []), ([6], [6]), ([5, 7], [5, 7]), ([0, 2, 0, 1, 2, 3, 4, 5, 6, 7, 8], [0, 2]), ([9, 0, 1, 2, 3, 4, 5, 6, 7, 8], [9]), ([10, 8, 0, 1, 2, 3, 4, 5, 6, 7, 8], [8, 10])])
def dist_tidy_rest.B9 : List Nat := [0, 0, 2, 7, 15, 31, 0, 64, 255, 511, 1023, 2047]
theorem dist_tidy_rest.tab9 : rtab .any (opsOf Try.f109 9) = dist_tidy_rest.T9 := by kernel_rfl
theorem dist_tidy_rest.bits9 : waitsOk dist_tidy_rest.T9.2 dist_tidy_rest.B9 = true := by kernel_rfl
set_option maxHeartbeats 8000000 in
set_option maxRecDepth 100000 in
theorem dist_tidy_rest.calls (k : Nat) (base_ : Nat) (P0_ : Nat → Prop) (A0 : Option Addr) (c0 : Nat) (lu_ : List S96) (r1 : List S96) (r2 : Int) (wu_ : World) (hN_ : Kd.N k96 96 wu_ base_ P0_ (.slice A0 lu_.length c0) lu_) (hlen_ : lu_.length < 1152921504606846976) (h_ : ∀ ys, PartsSorted lu_ ys → dist_tidy_rest.f k ys = some (r1, r2)) :
    Calls Try.prog 109 #[.slice A0 lu_.length c0] wu_ fun e w' => ∃ w : World, wu_.grownBy w (Value.slice A0 lu_.length c0).ownBlock ∧ ∃ v0_ : Value, e = .returned (.tuple #[v0_, .int .i64 r2]) ∧ Kd.N k96 96 w' w.heap.size (fun k_ => (P0_ k_ ∨ w.heap.size ≤ k_)) v0_ r1 ∧ Below w.heap.size w w' := by
  have SP_ := Aside0.mk (sortParts base_ P0_ A0 c0 lu_ wu_ hN_ hlen_)
  have HH_ := Aside0.mk h_
  have HCC_ : Aside0 (lu_.length ≤ c0) := ⟨by obtain ⟨A_, c_, e_, hc_, _⟩ := Kd.N_V (base' := 0) hN_; injection e_ with e1_ e2_ e3_; rw [e3_]; exact hc_⟩
  clear hN_ h_ hlen_
  go_enter Try.func109, Try.ntmps109
  go_wp2_with fail
  refine SP_.out.mono ?_
  rintro e w ⟨rfl, hg_, l0, hp_, hF_⟩
  have hl_ : lu_.length = l0.length := hp_.1.length_eq.symm
  have hcc_ := HCC_.out
  have h := HH_.out l0 hp_
  clear SP_ HH_ HCC_ hp_
  have HG_ := Aside0.mk hg_
  rw [hl_] at hF_ hcc_ ⊢
  clear hl_
  have hs0 : Kd.V k96 96 w w.heap.size (fun k_ => P0_ k_) (.slice A0 l0.length c0) l0 := ⟨A0, c0, rfl, hcc_, hF_⟩
  clear hg_ hF_ hcc_
  have hu96 := Try.underlying96
  have HO0 := Aside0.mk (show Kd.V k96 96 w w.heap.size (fun k_ => (P0_ k_ ∨ w.heap.size ≤ k_)) (.slice A0 l0.length c0) l0 from Kd.V_mono hs0 (fun k_ hk => .inl hk))
  have HB := Aside0.mk (Below.refl w.heap.size w)
  have H : (dist_tidy_rest.l0 k ([] : List (S96)) l0 (l0.length : Int) 0) = some (r1, r2) := h
  clear h
  have H' := Aside0.mk H
  clear H
  go_wp2
  go_loopg [4, 16] k (fun kq v4 v16 w' => ∃ (x4_1 : List (S96)) (x14_1 : List (S96)) (x16_1 : Int), v16 = .int .i64 x16_1 ∧ Aside0 (dist_tidy_rest.l0 kq x4_1 x14_1 (l0.length : Int) x16_1 = some (r1, r2)) ∧ Aside0 (kq ≤ k) ∧ Aside0 (Kd.N k96 96 w' w.heap.size (fun k_ => (P0_ k_ ∨ w.heap.size ≤ k_)) v4 x4_1) ∧ Aside0 (Kd.V k96 96 w' w.heap.size (fun k_ => (P0_ k_ ∨ w.heap.size ≤ k_) ∧ some k_ ≠ (v4 : Value).ownBlock) (.slice A0 l0.length c0) x14_1) ∧ Aside0 (Below w.heap.size w w'))
  case atStart => exact ⟨(([] : List (S96))), (l0), (0), (by first | rfl | (simp; done) | (simp [*]; done)), H', ⟨Nat.le_refl _⟩, ⟨by first | exact Kd.S_nil _ _ _ _ _ | exact Kd.N_nil _ _ _ _ _ | exact Kd.V_nil _ _ _ _ _ | exact Kd.Q_nil _ _ _ _ _ | exact Kd.R_nil _ _ _ _ _⟩, ⟨by (with_reducible repeat (first | apply Kd.V_alloc | apply Kd.V_drewN | apply Kd.V_drew)); exact Kd.V_mono HO0.out (fun _ hk => ⟨hk, (by simp [Value.ownBlock])⟩)⟩, ⟨by repeat (first | (with_reducible first | exact HB.out | apply below_alloc | apply pw_below_drewN | apply below_drew1) | exact HB.out)⟩⟩
  case round =>
    clear H'
    try clear c1
    obtain ⟨x4_1, x14_1, x16_1, rfl, HA, HK1, HO_4, HO_14, HB⟩ := hrel
    have hl14_1 := (Kd.V_reads' HO_14.out).1
    rw [hl14_1] at HO_14
    (try simp only [hl14_1])
    (try simp only [hl14_1] at HO_4)
    cases gk with
    | zero => exact absurd HA.out (by simp [dist_tidy_rest.l0])
    | succ k1 =>
      have H := HA.out
      clear HA
      simp only [dist_tidy_rest.l0] at H
      by_cases c2 : x16_1 < (l0.length : Int)
      · rw [if_pos c2] at H
        have c2b0 : decide (x16_1 < (l0.length : Int)) = true := decide_eq_true c2
        try (have c2b0hl14_1 := c2b0; rw [hl14_1] at c2b0hl14_1)
        clear c2
        by_cases c3 : 0 ≤ x16_1
        · rw [if_pos c3] at H
          have c3b0 : decide (0 ≤ x16_1) = true := decide_eq_true c3
          clear c3
          by_cases c4 : x16_1 < (x14_1.length : Int)
          · rw [if_pos c4] at H
            have c4b0 : decide (x16_1 < (x14_1.length : Int)) = true := decide_eq_true c4
            try (have c4b0hl14_1 := c4b0; rw [hl14_1] at c4b0hl14_1)
            clear c4
            by_cases c5 : ((rd_T96 x14_1 x16_1).f1) = 0
            · rw [if_pos c5] at H
              have c5b0 : (((rd_T96 x14_1 x16_1).f1) == 0) = true := beq_iff_eq.mpr c5
              have c5b1 : (((rd_T96 x14_1 x16_1).f1) != 0) = false := bne_eq_false_iff_eq.mpr c5
              clear c5
              have H' := Aside0.mk H
              clear H
              have p121 : 0 ≤ (x16_1 : Int) := of_decide_eq_true (by first | (with_reducible assumption) | assumption)
              have q121 : x16_1 < (x14_1.length : Int) := of_decide_eq_true (by first | (with_reducible assumption) | assumption)
              obtain ⟨ad121, A121_0, c121_0, e121, hx121_0, hx121_1, hl121_0, hi121_0⟩ := at_T96 (Kd.V_reads' HO_14.out).2.2 x16_1 p121 q121
              cases e121
              obtain ⟨ce121, hce121, hMe121, hcc121⟩ := Kd.V_get HO_14.out z96 x16_1 p121 (by first | exact q121 | exact of_decide_eq_true (by first | (with_reducible assumption) | assumption) | (have e_ := (Kd.V_reads' HO_14.out).1; omega))
              obtain ⟨ua121_0, uc121_0, rfl, ul121_0, ge121_0⟩ := k96_openF hMe121
              have hv121_0 := hcc121 0 _ rfl
              rw [Nat.add_zero] at hv121_0
              replace hv121_0 := Option.some.inj (hv121_0.symm.trans hx121_0)
              injection hv121_0 with hva_ hvn_ hvc_
              rw [hva_] at ge121_0
              rw [hvc_] at ul121_0
              have HL121_0 := Aside0.mk (show Kd.V (Kd.int .i64) 3 _ w.heap.size _ _ ((rd_T96 x14_1 x16_1).f0) from Kd.V_mk ul121_0 ge121_0)
              clear hva_ hvn_ hvc_ ge121_0 ul121_0
              clear hcc121 hce121
              have HR121_0 := Aside0.mk hi121_0
              have HC121_0 := Aside0.mk hl121_0
              clear hi121_0 hl121_0
              replace p121 := eq_true p121
              replace q121 := eq_true q121
              go_wp2_with (first | ((with_reducible refine gate_dst (N := 6) rfl ?_); (try (refine gate_guard (by rfl) ?_; dsimp only)); refine box_event ?hg (N := 6) ?hd (cs := #[.slice none 0 0, .int .i64 0]) (t := 96) ?hr ?_; (case hd => rfl); (case hg => rfl); (case hr => first | (go_simp; done) | (go_simp; rfl)); intro gb122 hg w6 hbox hb; have n0_ := Aside0.mk (Kd.N_below (Kd.N_elderB (by (with_reducible repeat (first | apply Kd.N_alloc | apply Kd.N_drewN | apply Kd.N_drew)); exact HO_4.out) gb122 (Nat.le_of_eq hg.symm)) hb); have n1_ := Aside0.mk (Kd.V_below (Kd.V_elderB (by (with_reducible repeat (first | apply Kd.V_alloc | apply Kd.V_drewN | apply Kd.V_drew)); exact HO_14.out) gb122 (Nat.le_of_eq hg.symm)) hb); have n2_ := Aside0.mk (Kd.V_below (Kd.V_elderB (by (with_reducible repeat (first | apply Kd.V_alloc | apply Kd.V_drewN | apply Kd.V_drew)); exact HL121_0.out) gb122 (Nat.le_of_eq hg.symm)) hb); have n3_ := Aside0.mk (Kd.C_below (by repeat (first | (with_reducible exact HR121_0.out) | (with_reducible refine Kd.C_alloc ?_ _) | (with_reducible refine Kd.C_drewN ?_ _) | (with_reducible refine Kd.C_drew ?_) | exact HR121_0.out)) hb); have n4_ := Aside0.mk (below_step (by repeat (first | (with_reducible first | exact HB.out | apply below_alloc | apply pw_below_drewN | apply below_drew1) | exact HB.out)) hb); have n5_ := Aside0.mk (hbox); have n6_ := Aside0.mk ((by rw [hg]; exact (below_size (by repeat (first | (with_reducible first | exact HB.out | apply below_alloc | apply pw_below_drewN | apply below_drew1) | exact HB.out))) : w.heap.size ≤ gb122)); have n7_ := Aside0.mk ((by rw [hg]; exact (below_size (by repeat (first | (with_reducible first | exact HB.out | apply below_alloc | apply pw_below_drewN | apply below_drew1) | exact HB.out))) : w.heap.size ≤ gb122)); clear HO_4; clear HO_14; clear HL121_0; clear HR121_0; clear HB; have HO_4 := n0_; have HO_14 := n1_; have HL121_0 := n2_; have HR121_0 := n3_; have HB := n4_; have BK122 := n5_; have GW122 := n6_; have GE122 := n7_; clear n0_ n1_ n2_ n3_ n4_ n5_ n6_ n7_; clear hb hbox hg; have hcz7_0 : w6.cell? ⟨gb122, 0, none⟩ = some (.slice none 0 0) := (blk_cell BK122.out 0).trans rfl; have hcz7_1 : w6.cell? ⟨gb122, 1, none⟩ = some (.int .i64 0) := (blk_cell BK122.out 1).trans rfl; have hfz7_0 := blk_frozen BK122.out 0; have hfz7_1 := blk_frozen BK122.out 1; obtain ⟨Ao8, co8, eo8⟩ := Kd.N_slice HO_4.out; subst eo8))
              (try simp only [← hl14_1])
              go_roundg k1
              case measure => have := HK1.out; omega
              case rel => exact ⟨(x4_1), (x14_1), (wrap64 (x16_1 + 1)), (by first | rfl | (simp; done) | (simp [*]; done)), H', ⟨by have := HK1.out; omega⟩, ⟨by (try simp only [hl14_1]); (with_reducible repeat (first | apply Kd.N_alloc | apply Kd.N_drewN | apply Kd.N_drew)); exact Kd.N_mono (Kd.N_far (p := ⟨gb122, 1, none⟩) (Kd.N_far (p := ⟨gb122, 0, none⟩) (Kd.N_mono HO_4.out (fun k_ hk => (⟨hk, hk.2⟩ : _ ∧ k_ ≠ gb122))) (fun _ hk => hk.2) (.slice A121_0 ((rd_T96 x14_1 x16_1).f0).length c121_0)) (fun _ hk => hk.2) (.int .i64 ((rd_T96 x14_1 x16_1).f1))) (fun _ hk => hk.1.1)⟩, ⟨by (try simp only [hl14_1]); (with_reducible repeat (first | apply Kd.V_alloc | apply Kd.V_drewN | apply Kd.V_drew)); exact Kd.V_mono (Kd.V_far (p := ⟨gb122, 1, none⟩) (Kd.V_far (p := ⟨gb122, 0, none⟩) (Kd.V_mono HO_14.out (fun k_ hk => (⟨hk, hk.2⟩ : _ ∧ k_ ≠ gb122))) (fun _ hk => hk.2) (.slice A121_0 ((rd_T96 x14_1 x16_1).f0).length c121_0)) (fun _ hk => hk.2) (.int .i64 ((rd_T96 x14_1 x16_1).f1))) (fun _ hk => ⟨hk.1.1.1, hk.1.1.2⟩)⟩, ⟨by repeat (first | (with_reducible first | exact HB.out | apply below_alloc | apply pw_below_drewN | apply below_drew1 | refine below_set ?_ GE122.out) | exact HB.out)⟩⟩
            · rw [if_neg c5] at H
              have c5b0 : (((rd_T96 x14_1 x16_1).f1) == 0) = false := beq_eq_false_iff_ne.mpr c5
              have c5b1 : (((rd_T96 x14_1 x16_1).f1) != 0) = true := bne_iff_ne.mpr c5
              by_cases c9 : (x4_1.length : Int) > 0
              · rw [if_pos c9] at H
                have c9b0 : decide (0 < (x4_1.length : Int)) = true := decide_eq_true c9
                try (have c9b0hl14_1 := c9b0; rw [hl14_1] at c9b0hl14_1)
                have c9b1 : decide (0 < x4_1.length) = true := decide_eq_true (by omega)
                try (have c9b1hl14_1 := c9b1; rw [hl14_1] at c9b1hl14_1)
                clear c9
                obtain ⟨ji10, hji10⟩ : ∃ j_ : Int, (wrap64 ((x4_1.length : Int) - 1)) = j_ := ⟨_, rfl⟩
                replace H : (if 0 ≤ (ji10) then (if (ji10) < (x4_1.length : Int) then ((slices_Equal_int_int.f k1 ((rd_T96 x4_1 (ji10)).f0) ((rd_T96 x14_1 x16_1).f0)).bind fun t124 => (if t124 = true then (dist_tidy_rest.l0 k1 (x4_1.set ((ji10) : Int).toNat (⟨(rd_T96 x4_1 (ji10)).f0, wrap64 (((rd_T96 x4_1 (ji10)).f1) + ((rd_T96 x14_1 x16_1).f1))⟩ : S96)) x14_1 (l0.length : Int) (wrap64 (x16_1 + 1))) else (if x4_1.length < 4398046511104 then (dist_tidy_rest.l0 k1 (x4_1 ++ [(⟨(rd_T96 x14_1 x16_1).f0, (rd_T96 x14_1 x16_1).f1⟩ : S96)]) x14_1 (l0.length : Int) (wrap64 (x16_1 + 1))) else (none)))) else (none)) else (none)) = some (r1, r2) := by first | (rw [hji10] at H; exact H) | (simp only [hji10] at H ⊢; exact H)
                have hji10w : (IntKind.i64.wrap ((x4_1.length : Int) - 1)) = ji10 := (i64_w _).trans hji10
                by_cases c11 : 0 ≤ (ji10)
                · rw [if_pos c11] at H
                  have c11b0 : decide (0 ≤ (ji10)) = true := decide_eq_true c11
                  clear c11
                  by_cases c12 : (ji10) < (x4_1.length : Int)
                  · rw [if_pos c12] at H
                    have c12b0 : decide ((ji10) < (x4_1.length : Int)) = true := decide_eq_true c12
                    try (have c12b0hl14_1 := c12b0; rw [hl14_1] at c12b0hl14_1)
                    clear c12
                    replace H := Option.bind_eq_some_iff.mp H
                    obtain ⟨t124, A130, H⟩ := H
                    replace H : (if t124 = true then (dist_tidy_rest.l0 k1 (x4_1.set ((ji10) : Int).toNat (⟨(rd_T96 x4_1 (ji10)).f0, wrap64 (((rd_T96 x4_1 (ji10)).f1) + ((rd_T96 x14_1 x16_1).f1))⟩ : S96)) x14_1 (l0.length : Int) (wrap64 (x16_1 + 1))) else (if x4_1.length < 4398046511104 then (dist_tidy_rest.l0 k1 (x4_1 ++ [(⟨(rd_T96 x14_1 x16_1).f0, (rd_T96 x14_1 x16_1).f1⟩ : S96)]) x14_1 (l0.length : Int) (wrap64 (x16_1 + 1))) else (none))) = some (r1, r2) := H
                    have A13 := Aside0.mk A130
                    clear A130
                    by_cases c14 : t124 = true
                    · subst c14
                      have H1 : (dist_tidy_rest.l0 k1 (x4_1.set ((ji10) : Int).toNat (⟨(rd_T96 x4_1 (ji10)).f0, wrap64 (((rd_T96 x4_1 (ji10)).f1) + ((rd_T96 x14_1 x16_1).f1))⟩ : S96)) x14_1 (l0.length : Int) (wrap64 (x16_1 + 1))) = some (r1, r2) := by rw [if_pos rfl] at H; exact H
                      clear H
                      have H := H1
                      clear H1
                      obtain ⟨y126, hy126⟩ : ∃ y_ : List (S96), y_ = (x4_1.set ((ji10) : Int).toNat (⟨(rd_T96 x4_1 (ji10)).f0, wrap64 (((rd_T96 x4_1 (ji10)).f1) + ((rd_T96 x14_1 x16_1).f1))⟩ : S96)) := ⟨_, rfl⟩
                      replace H : (dist_tidy_rest.l0 k1 y126 x14_1 (l0.length : Int) (wrap64 (x16_1 + 1))) = some (r1, r2) := by first | (rw [hy126]; with_reducible exact H) | (have H2_ := (Option.bind_some _ _).symm.trans H; rw [hy126]; with_reducible exact H2_) | (have H2_ := (Option.bind_some _ _).symm.trans H; with_reducible exact H2_) | with_reducible exact H | (rw [hy126]; exact H) | exact H
                      have Ny126 := Aside0.mk hy126
                      clear hy126
                      have H' := Aside0.mk H
                      clear H
                      have p121 : 0 ≤ (x16_1 : Int) := of_decide_eq_true (by first | (with_reducible assumption) | assumption)
                      have q121 : x16_1 < (x14_1.length : Int) := of_decide_eq_true (by first | (with_reducible assumption) | assumption)
                      obtain ⟨ad121, A121_0, c121_0, e121, hx121_0, hx121_1, hl121_0, hi121_0⟩ := at_T96 (Kd.V_reads' HO_14.out).2.2 x16_1 p121 q121
                      cases e121
                      obtain ⟨ce121, hce121, hMe121, hcc121⟩ := Kd.V_get HO_14.out z96 x16_1 p121 (by first | exact q121 | exact of_decide_eq_true (by first | (with_reducible assumption) | assumption) | (have e_ := (Kd.V_reads' HO_14.out).1; omega))
                      obtain ⟨ua121_0, uc121_0, rfl, ul121_0, ge121_0⟩ := k96_openF hMe121
                      have hv121_0 := hcc121 0 _ rfl
                      rw [Nat.add_zero] at hv121_0
                      replace hv121_0 := Option.some.inj (hv121_0.symm.trans hx121_0)
                      injection hv121_0 with hva_ hvn_ hvc_
                      rw [hva_] at ge121_0
                      rw [hvc_] at ul121_0
                      have HL121_0 := Aside0.mk (show Kd.V (Kd.int .i64) 3 _ w.heap.size _ _ ((rd_T96 x14_1 x16_1).f0) from Kd.V_mk ul121_0 ge121_0)
                      clear hva_ hvn_ hvc_ ge121_0 ul121_0
                      clear hcc121 hce121
                      have HR121_0 := Aside0.mk hi121_0
                      have HC121_0 := Aside0.mk hl121_0
                      clear hi121_0 hl121_0
                      replace p121 := eq_true p121
                      replace q121 := eq_true q121
                      try go_wp2_with (first | ((with_reducible refine gate_dst (N := 6) rfl ?_); (try (refine gate_guard (by rfl) ?_; dsimp only)); refine box_event ?hg (N := 6) ?hd (cs := #[.slice none 0 0, .int .i64 0]) (t := 96) ?hr ?_; (case hd => rfl); (case hg => rfl); (case hr => first | (go_simp; done) | (go_simp; rfl)); intro gb122 hg w16 hbox hb; have n0_ := Aside0.mk (Kd.N_below (Kd.N_elderB (by (with_reducible repeat (first | apply Kd.N_alloc | apply Kd.N_drewN | apply Kd.N_drew)); exact HO_4.out) gb122 (Nat.le_of_eq hg.symm)) hb); have n1_ := Aside0.mk (Kd.V_below (Kd.V_elderB (by (with_reducible repeat (first | apply Kd.V_alloc | apply Kd.V_drewN | apply Kd.V_drew)); exact HO_14.out) gb122 (Nat.le_of_eq hg.symm)) hb); have n2_ := Aside0.mk (Kd.V_below (Kd.V_elderB (by (with_reducible repeat (first | apply Kd.V_alloc | apply Kd.V_drewN | apply Kd.V_drew)); exact HL121_0.out) gb122 (Nat.le_of_eq hg.symm)) hb); have n3_ := Aside0.mk (Kd.C_below (by repeat (first | (with_reducible exact HR121_0.out) | (with_reducible refine Kd.C_alloc ?_ _) | (with_reducible refine Kd.C_drewN ?_ _) | (with_reducible refine Kd.C_drew ?_) | exact HR121_0.out)) hb); have n4_ := Aside0.mk (below_step (by repeat (first | (with_reducible first | exact HB.out | apply below_alloc | apply pw_below_drewN | apply below_drew1) | exact HB.out)) hb); have n5_ := Aside0.mk (hbox); have n6_ := Aside0.mk ((by rw [hg]; exact (below_size (by repeat (first | (with_reducible first | exact HB.out | apply below_alloc | apply pw_below_drewN | apply below_drew1) | exact HB.out))) : w.heap.size ≤ gb122)); have n7_ := Aside0.mk ((by rw [hg]; exact (below_size (by repeat (first | (with_reducible first | exact HB.out | apply below_alloc | apply pw_below_drewN | apply below_drew1) | exact HB.out))) : w.heap.size ≤ gb122)); clear HO_4; clear HO_14; clear HL121_0; clear HR121_0; clear HB; have HO_4 := n0_; have HO_14 := n1_; have HL121_0 := n2_; have HR121_0 := n3_; have HB := n4_; have BK122 := n5_; have GW122 := n6_; have GE122 := n7_; clear n0_ n1_ n2_ n3_ n4_ n5_ n6_ n7_; clear hb hbox hg; have hcz17_0 : w16.cell? ⟨gb122, 0, none⟩ = some (.slice none 0 0) := (blk_cell BK122.out 0).trans rfl; have hcz17_1 : w16.cell? ⟨gb122, 1, none⟩ = some (.int .i64 0) := (blk_cell BK122.out 1).trans rfl; have hfz17_0 := blk_frozen BK122.out 0; have hfz17_1 := blk_frozen BK122.out 1; obtain ⟨Ao18, co18, eo18⟩ := Kd.N_slice HO_4.out; subst eo18))
                      have n0_ : Aside0 (Kd.N k96 96 ((w16.setCell ⟨gb122, 0, none⟩ (.slice A121_0 ((rd_T96 x14_1 x16_1).f0).length c121_0)).setCell ⟨gb122, 1, none⟩ (.int .i64 ((rd_T96 x14_1 x16_1).f1))) w.heap.size (fun k_ => (P0_ k_ ∨ w.heap.size ≤ k_) ∧ k_ ≠ gb122) (.slice Ao18 x4_1.length co18) x4_1) := ⟨by (with_reducible repeat (first | apply Kd.N_alloc | apply Kd.N_drewN | apply Kd.N_drew)); exact Kd.N_mono (Kd.N_far (p := ⟨gb122, 1, none⟩) (Kd.N_far (p := ⟨gb122, 0, none⟩) (Kd.N_mono HO_4.out (fun k_ hk => (⟨hk, hk.2⟩ : _ ∧ k_ ≠ gb122))) (fun _ hk => hk.2) (.slice A121_0 ((rd_T96 x14_1 x16_1).f0).length c121_0)) (fun _ hk => hk.2) (.int .i64 ((rd_T96 x14_1 x16_1).f1))) (fun _ hk => ⟨hk.1.1, hk.1.2⟩)⟩
                      have n1_ : Aside0 (Kd.V k96 96 ((w16.setCell ⟨gb122, 0, none⟩ (.slice A121_0 ((rd_T96 x14_1 x16_1).f0).length c121_0)).setCell ⟨gb122, 1, none⟩ (.int .i64 ((rd_T96 x14_1 x16_1).f1))) w.heap.size (fun k_ => (P0_ k_ ∨ w.heap.size ≤ k_) ∧ some k_ ≠ (.slice Ao18 x4_1.length co18 : Value).ownBlock ∧ k_ ≠ gb122) (.slice (some ad121) x14_1.length c0) x14_1) := ⟨by (with_reducible repeat (first | apply Kd.V_alloc | apply Kd.V_drewN | apply Kd.V_drew)); exact Kd.V_mono (Kd.V_far (p := ⟨gb122, 1, none⟩) (Kd.V_far (p := ⟨gb122, 0, none⟩) (Kd.V_mono HO_14.out (fun k_ hk => (⟨hk, hk.2⟩ : _ ∧ k_ ≠ gb122))) (fun _ hk => hk.2) (.slice A121_0 ((rd_T96 x14_1 x16_1).f0).length c121_0)) (fun _ hk => hk.2) (.int .i64 ((rd_T96 x14_1 x16_1).f1))) (fun _ hk => ⟨hk.1.1.1, ⟨hk.1.1.2, hk.1.2⟩⟩)⟩
                      have n2_ : Aside0 (Kd.V (Kd.int .i64) 3 ((w16.setCell ⟨gb122, 0, none⟩ (.slice A121_0 ((rd_T96 x14_1 x16_1).f0).length c121_0)).setCell ⟨gb122, 1, none⟩ (.int .i64 ((rd_T96 x14_1 x16_1).f1))) w.heap.size (fun k_ => (P0_ k_ ∨ w.heap.size ≤ k_) ∧ some k_ ≠ (.slice Ao18 x4_1.length co18 : Value).ownBlock ∧ k_ ≠ gb122) (.slice A121_0 ((rd_T96 x14_1 x16_1).f0).length c121_0) ((rd_T96 x14_1 x16_1).f0)) := ⟨by (with_reducible repeat (first | apply Kd.V_alloc | apply Kd.V_drewN | apply Kd.V_drew)); exact Kd.V_mono (Kd.V_far (p := ⟨gb122, 1, none⟩) (Kd.V_far (p := ⟨gb122, 0, none⟩) (Kd.V_mono HL121_0.out (fun k_ hk => (⟨hk, hk.2⟩ : _ ∧ k_ ≠ gb122))) (fun _ hk => hk.2) (.slice A121_0 ((rd_T96 x14_1 x16_1).f0).length c121_0)) (fun _ hk => hk.2) (.int .i64 ((rd_T96 x14_1 x16_1).f1))) (fun _ hk => ⟨hk.1.1.1, ⟨hk.1.1.2, hk.1.2⟩⟩)⟩
                      have n3_ : Aside0 (((w16.setCell ⟨gb122, 0, none⟩ (.slice A121_0 ((rd_T96 x14_1 x16_1).f0).length c121_0)).setCell ⟨gb122, 1, none⟩ (.int .i64 ((rd_T96 x14_1 x16_1).f1))).heap[gb122]? = some (.cells #[.slice A121_0 ((rd_T96 x14_1 x16_1).f0).length c121_0, .int .i64 ((rd_T96 x14_1 x16_1).f1)] 96 (0, 0))) := ⟨by (with_reducible repeat (first | refine blk_drewN ?_ _ | refine blk_drew ?_ | refine blk_alloc ?_ _)); refine blk_put (cs := #[.slice A121_0 ((rd_T96 x14_1 x16_1).f0).length c121_0, .int .i64 0]) ?_ 1 _ rfl; (with_reducible repeat (first | refine blk_drewN ?_ _ | refine blk_drew ?_ | refine blk_alloc ?_ _)); refine blk_put (cs := #[.slice none 0 0, .int .i64 0]) ?_ 0 _ rfl; (with_reducible repeat (first | refine blk_drewN ?_ _ | refine blk_drew ?_ | refine blk_alloc ?_ _)); exact BK122.out⟩
                      have n4_ : Aside0 (Below w.heap.size w ((w16.setCell ⟨gb122, 0, none⟩ (.slice A121_0 ((rd_T96 x14_1 x16_1).f0).length c121_0)).setCell ⟨gb122, 1, none⟩ (.int .i64 ((rd_T96 x14_1 x16_1).f1)))) := ⟨by repeat (first | (with_reducible first | exact HB.out | apply below_alloc | apply pw_below_drewN | apply below_drew1 | refine below_set ?_ GE122.out) | exact HB.out)⟩
                      (try clear HO_4)
                      (try clear HO_14)
                      (try clear HL121_0)
                      (try clear BK122)
                      (try clear HB)
                      generalize ((w16.setCell ⟨gb122, 0, none⟩ (.slice A121_0 ((rd_T96 x14_1 x16_1).f0).length c121_0)).setCell ⟨gb122, 1, none⟩ (.int .i64 ((rd_T96 x14_1 x16_1).f1))) = w19 at n0_ n1_ n2_ n3_ n4_ ⊢
                      have HO_4 := n0_
                      have HO_14 := n1_
                      have HL121_0 := n2_
                      have BK122 := n3_
                      have HB := n4_
                      clear n0_ n1_ n2_ n3_ n4_
                      have n0_ := Aside0.mk (Kd.N_drew HO_4.out)
                      have n1_ := Aside0.mk (Kd.V_drew HO_14.out)
                      have n2_ := Aside0.mk (Kd.V_drew HL121_0.out)
                      have n3_ := Aside0.mk (blk_drew BK122.out)
                      have n4_ := Aside0.mk (below_drew1 HB.out)
                      clear HO_4
                      clear HO_14
                      clear HL121_0
                      clear BK122
                      clear HB
                      have HO_4 := n0_
                      have HO_14 := n1_
                      have HL121_0 := n2_
                      have BK122 := n3_
                      have HB := n4_
                      clear n0_ n1_ n2_ n3_ n4_
                      have p123 : 0 ≤ ((ji10) : Int) := of_decide_eq_true (by first | (with_reducible assumption) | assumption)
                      have q123 : (ji10) < (x4_1.length : Int) := of_decide_eq_true (by first | (with_reducible assumption) | assumption)
                      obtain ⟨ad123, A123_0, c123_0, e123, hx123_0, hx123_1, hl123_0, hi123_0⟩ := at_T96 (Kd.N_reads' HO_4.out).2.2 (ji10) p123 q123
                      cases e123
                      obtain ⟨ce123, hce123, hMe123, hcc123⟩ := Kd.N_get HO_4.out z96 (ji10) p123 (by first | exact q123 | exact of_decide_eq_true (by first | (with_reducible assumption) | assumption) | (have e_ := (Kd.N_reads' HO_4.out).1; omega))
                      obtain ⟨ua123_0, uc123_0, rfl, ul123_0, ge123_0⟩ := k96_openF hMe123
                      have hv123_0 := hcc123 0 _ rfl
                      rw [Nat.add_zero] at hv123_0
                      replace hv123_0 := Option.some.inj (hv123_0.symm.trans hx123_0)
                      injection hv123_0 with hva_ hvn_ hvc_
                      rw [hva_] at ge123_0
                      rw [hvc_] at ul123_0
                      have HL123_0 := Aside0.mk (show Kd.V (Kd.int .i64) 3 _ w.heap.size _ _ ((rd_T96 x4_1 (ji10)).f0) from Kd.V_mk ul123_0 ge123_0)
                      clear hva_ hvn_ hvc_ ge123_0 ul123_0
                      clear hcc123 hce123
                      have HR123_0 := Aside0.mk hi123_0
                      have HC123_0 := Aside0.mk hl123_0
                      clear hi123_0 hl123_0
                      replace p123 := eq_true p123
                      replace q123 := eq_true q123
                      refine start_ (n := 13) (S := fun w' => w'.cell? ⟨gb122, 0, none⟩ = some (.slice A121_0 ((rd_T96 x14_1 x16_1).f0).length c121_0) ∧ w'.cell? ⟨gb122, 1, none⟩ = some (.int .i64 ((rd_T96 x14_1 x16_1).f1)) ∧ w'.cell? (ad123.add (((ji10)).toNat * 2)) = some (.slice A123_0 ((rd_T96 x4_1 (ji10)).f0).length c123_0) ∧ w'.cell? ⟨(ad123.add (((ji10)).toNat * 2)).block, (ad123.add (((ji10)).toNat * 2)).off + 1, none⟩ = some (.int .i64 ((rd_T96 x4_1 (ji10)).f1))) (ds := []) #[false, false, false, false, false, false, false, false, false, false, false, false, false] (by kernel_rfl) rfl rfl ⟨(blk_cell BK122.out 0).trans rfl, (blk_cell BK122.out 1).trans rfl, hx123_0, hx123_1⟩ (fun hHeld => ?_); refine with_tabW dist_tidy_rest.tab8 dist_tidy_rest.bits8 (fun HT_ HW_ => ?_)
                      generalize w19.drew = w20 at HO_4 HO_14 HL121_0 BK122 HB HL123_0 HR123_0 hx123_0 hx123_1 hHeld ⊢
                      refine pure_ (i := 0) (N := some 25) (v := ?_) (a' := ?_) #[true, false, false, false, false, false, false, false, false, false, false, false, false] rfl rfl (any_of HT_.out (by kernel_rfl)) (fun _ _ _ h => h) (Or.inl ⟨by rfl, ?_⟩) ?_ ?_
                      rotate_left
                      · intro w'
                        go_simp
                        with_reducible rfl
                      rotate_left
                      · simp only [Act.put, List.setIfInBounds_toArray, List.set_cons_zero, List.set_cons_succ, i64_w, i32_w]
                        rfl
                      refine pure_ (i := 1) (N := some 26) (v := ?_) (a' := ?_) #[true, true, false, false, false, false, false, false, false, false, false, false, false] rfl rfl (any_of HT_.out (by kernel_rfl)) (fun _ _ _ h => h) (Or.inl ⟨by rfl, ?_⟩) ?_ ?_
                      rotate_left
                      · intro w'
                        go_simp
                        with_reducible rfl
                      rotate_left
                      · simp only [Act.put, List.setIfInBounds_toArray, List.set_cons_zero, List.set_cons_succ, i64_w, i32_w]
                        rfl
                      refine pure_ (i := 2) (N := some 27) (v := ?_) (a' := ?_) #[true, true, true, false, false, false, false, false, false, false, false, false, false] rfl rfl (any_of HT_.out (by kernel_rfl)) (fun _ _ _ h => h) (Or.inl ⟨by rfl, ?_⟩) ?_ ?_
                      rotate_left
                      · intro w'
                        go_simp
                        with_reducible rfl
                      rotate_left
                      · simp only [Act.put, List.setIfInBounds_toArray, List.set_cons_zero, List.set_cons_succ, i64_w, i32_w]
                        rfl
                      refine pure_ (i := 3) (N := some 28) (v := ?_) (a' := ?_) #[true, true, true, true, false, false, false, false, false, false, false, false, false] rfl rfl (any_of HT_.out (by kernel_rfl)) (fun _ _ _ h => h) (Or.inl ⟨by rfl, ?_⟩) ?_ ?_
                      rotate_left
                      · intro w'
                        go_simp
                        with_reducible rfl
                      rotate_left
                      · simp only [Act.put, List.setIfInBounds_toArray, List.set_cons_zero, List.set_cons_succ, i64_w, i32_w]
                        rfl
                      refine pure_ (i := 4) (N := some 29) (v := ?_) (a' := ?_) #[true, true, true, true, true, false, false, false, false, false, false, false, false] rfl rfl (any_of HT_.out (by kernel_rfl)) (fun _ _ _ h => h) (Or.inl ⟨by rfl, ?_⟩) ?_ ?_
                      rotate_left
                      · intro w'
                        go_simp
                        with_reducible rfl
                      rotate_left
                      · simp only [Act.put, List.setIfInBounds_toArray, List.set_cons_zero, List.set_cons_succ, i64_w, i32_w]
                        rfl
                      refine pure_ (i := 5) (N := some 30) (v := ?_) (a' := ?_) #[true, true, true, true, true, true, false, false, false, false, false, false, false] rfl rfl (any_of HT_.out (by kernel_rfl)) (fun _ _ _ h => h) (Or.inl ⟨by rfl, ?_⟩) ?_ ?_
                      rotate_left
                      · intro w'
                        go_simp
                        with_reducible rfl
                      rotate_left
                      · simp only [Act.put, List.setIfInBounds_toArray, List.set_cons_zero, List.set_cons_succ, i64_w, i32_w]
                        rfl
                      refine pure_ (i := 6) (N := some 31) (v := ?_) (a' := ?_) #[true, true, true, true, true, true, true, false, false, false, false, false, false] rfl rfl (any_of HT_.out (by kernel_rfl)) (fun _ _ _ h => h) (Or.inl ⟨by rfl, ?_⟩) ?_ ?_
                      rotate_left
                      · intro w'
                        go_simp
                        with_reducible rfl
                      rotate_left
                      · simp only [Act.put, List.setIfInBounds_toArray, List.set_cons_zero, List.set_cons_succ, i64_w, i32_w]
                        rfl
                      refine pure_ (i := 7) (N := some 32) (v := ?_) (a' := ?_) #[true, true, true, true, true, true, true, true, false, false, false, false, false] rfl rfl (any_of HT_.out (by kernel_rfl)) (fun _ _ _ h => h) (Or.inl ⟨by rfl, ?_⟩) ?_ ?_
                      rotate_left
                      · intro w'
                        go_simp
                        with_reducible rfl
                      rotate_left
                      · simp only [Act.put, List.setIfInBounds_toArray, List.set_cons_zero, List.set_cons_succ, i64_w, i32_w]
                        rfl
                      refine pure_ (i := 9) (N := some 34) (v := ?_) (a' := ?_) #[true, true, true, true, true, true, true, true, false, true, false, false, false] rfl rfl (any_of HT_.out (by kernel_rfl)) (fun _ _ _ h => h) (Or.inl ⟨by rfl, ?_⟩) ?_ ?_
                      rotate_left
                      · intro w'
                        go_simp
                        with_reducible rfl
                      rotate_left
                      · simp only [Act.put, List.setIfInBounds_toArray, List.set_cons_zero, List.set_cons_succ, i64_w, i32_w]
                        rfl
                      refine take_ (i := 8) (N := some 33) (v := ?_) (a' := ?_) #[true, true, true, true, true, true, true, true, true, true, false, false, false] rfl rfl (take_ofW HT_.out HW_.out (by kernel_rfl)) (fun _ _ _ h => h) (Or.inl ⟨by rfl, ?_⟩) hHeld ?_ ?_
                      rotate_left
                      · rintro w' ⟨s0, s1, s2, s3⟩
                        go_simp
                        with_reducible rfl
                      rotate_left
                      · simp only [Act.put, List.setIfInBounds_toArray, List.set_cons_zero, List.set_cons_succ, i64_w, i32_w]
                        rfl
                      refine take_ (i := 10) (N := some 35) (v := ?_) (a' := ?_) #[true, true, true, true, true, true, true, true, true, true, true, false, false] rfl rfl (take_ofW HT_.out HW_.out (by kernel_rfl)) (fun _ _ _ h => h) (Or.inl ⟨by rfl, ?_⟩) hHeld ?_ ?_
                      rotate_left
                      · rintro w' ⟨s0, s1, s2, s3⟩
                        go_simp
                        with_reducible rfl
                      rotate_left
                      · simp only [Act.put, List.setIfInBounds_toArray, List.set_cons_zero, List.set_cons_succ, i64_w, i32_w]
                        rfl
                      refine one_ (i := 11) (N := some 36) #[true, true, true, true, true, true, true, true, true, true, true, true, false] rfl rfl (one_of HT_.out (by kernel_rfl)) (by decide) (fun K hK => ?_)
                      refine goes_ Try.func119 (by kernel_rfl) rfl #[.slice A123_0 ((rd_T96 x4_1 (ji10)).f0).length c123_0, .slice A121_0 ((rd_T96 x14_1 x16_1).f0).length c121_0] (by rfl) rfl rfl (by (try simp only [List.map_toArray, List.map_cons, List.map_nil]); first | done | (simp only [hji10]; rfl) | rfl | (simp only [List.length_drop, List.length_take]; rfl)) ?_
                      with_reducible refine (slices_Equal_int_int.calls k1 _ _ ((rd_T96 x4_1 (ji10)).f0) _ _ ((rd_T96 x14_1 x16_1).f0) true _ ?side1 ?side2 ?side3 ?side4 A13.out).mono ?_
                      (case side1 => repeat (first | exact (by repeat (first | (with_reducible exact HR123_0.out) | (with_reducible refine Kd.C_alloc ?_ _) | (with_reducible refine Kd.C_drewN ?_ _) | (with_reducible refine Kd.C_drew ?_) | exact HR123_0.out)) | (with_reducible refine Kd.C_alloc ?_ _) | (with_reducible refine Kd.C_drewN ?_ _) | (with_reducible refine Kd.C_drew ?_)))
                      (case side2 => exact HC123_0.out)
                      (case side3 => repeat (first | exact ((Kd.V_reads' (by (with_reducible repeat (first | apply Kd.V_alloc | apply Kd.V_drewN | apply Kd.V_drew)); exact HL121_0.out)).2.2) | (with_reducible refine Kd.C_alloc ?_ _) | (with_reducible refine Kd.C_drewN ?_ _) | (with_reducible refine Kd.C_drew ?_)))
                      (case side4 => exact HC121_0.out)
                      rintro e w' ⟨rfl, ⟨nd, rfl⟩⟩
                      refine ⟨_, rfl, ?_⟩
                      refine hK.out _ _ ⟨(blk_cell BK122.out 0).trans rfl, (blk_cell BK122.out 1).trans rfl, hHeld.2.2.1, hHeld.2.2.2⟩ (fun hHeld => ?_)
                      clear hK K
                      refine norm_ (a' := ?_) ?_ ?_
                      rotate_left
                      · show Act.put _ (some 36) _ = _
                        simp only [Act.put, List.setIfInBounds_toArray, List.set_cons_zero, List.set_cons_succ, i64_w, i32_w]
                        rfl
                      refine pure_ (i := 12) (N := some 37) (v := ?_) (a' := ?_) #[true, true, true, true, true, true, true, true, true, true, true, true, true] rfl rfl (any_of HT_.out (by kernel_rfl)) (fun _ _ _ h => h) (Or.inl ⟨by rfl, ?_⟩) ?_ ?_
                      rotate_left
                      · intro w'
                        go_simp
                        with_reducible rfl
                      rotate_left
                      · simp only [Act.put, List.setIfInBounds_toArray, List.set_cons_zero, List.set_cons_succ, i64_w, i32_w]
                        rfl
                      refine done_ (done_of HT_.out (by kernel_rfl)) ?_
                      try go_wp2
                      (try (rw [drewN_self w20]; generalize hq_ : World.drewN w20 _ = w20; have n0_ : Aside0 (Kd.V (Kd.int .i64) 3 w20 w.heap.size (fun k_ => (P0_ k_ ∨ w.heap.size ≤ k_) ∧ some k_ ≠ (.slice (some ad123) x4_1.length co18 : Value).ownBlock ∧ k_ ≠ gb122) (.slice A121_0 ((rd_T96 x14_1 x16_1).f0).length c121_0) ((rd_T96 x14_1 x16_1).f0)) := ⟨by rw [← hq_]; exact (by (with_reducible repeat (first | apply Kd.V_alloc | apply Kd.V_drewN | apply Kd.V_drew)); exact HL121_0.out)⟩; have n1_ : Aside0 (Kd.V (Kd.int .i64) 3 w20 w.heap.size (fun k_ => (P0_ k_ ∨ w.heap.size ≤ k_) ∧ some k_ ≠ (.slice (some ad123) x4_1.length co18 : Value).ownBlock ∧ k_ ≠ gb122) (.slice A123_0 ((rd_T96 x4_1 (ji10)).f0).length c123_0) ((rd_T96 x4_1 (ji10)).f0)) := ⟨by rw [← hq_]; exact (by (with_reducible repeat (first | apply Kd.V_alloc | apply Kd.V_drewN | apply Kd.V_drew)); exact Kd.V_mono HL123_0.out (fun _ hk => ⟨hk.1.1, ⟨hk.2, hk.1.2⟩⟩))⟩; have n2_ : Aside0 (Kd.V k96 96 w20 w.heap.size (fun k_ => (P0_ k_ ∨ w.heap.size ≤ k_) ∧ some k_ ≠ (.slice (some ad123) x4_1.length co18 : Value).ownBlock ∧ k_ ≠ gb122) (.slice (some ad121) x14_1.length c0) x14_1) := ⟨by rw [← hq_]; exact (by (with_reducible repeat (first | apply Kd.V_alloc | apply Kd.V_drewN | apply Kd.V_drew)); exact HO_14.out)⟩; have n3_ : Aside0 (Kd.N k96 96 w20 w.heap.size (fun k_ => (P0_ k_ ∨ w.heap.size ≤ k_) ∧ k_ ≠ gb122) (.slice (some ad123) x4_1.length co18) x4_1) := ⟨by rw [← hq_]; exact (by (with_reducible repeat (first | apply Kd.N_alloc | apply Kd.N_drewN | apply Kd.N_drew)); exact HO_4.out)⟩; have n4_ : Aside0 (w20.heap[gb122]? = some (.cells #[.slice A121_0 ((rd_T96 x14_1 x16_1).f0).length c121_0, .int .i64 ((rd_T96 x14_1 x16_1).f1)] 96 (0, 0))) := ⟨by rw [← hq_]; exact (by (with_reducible repeat (first | refine blk_drewN ?_ _ | refine blk_drew ?_ | refine blk_alloc ?_ _)); exact BK122.out)⟩; have n5_ : Aside0 (Below w.heap.size w w20) := ⟨by rw [← hq_]; exact (by repeat (first | (with_reducible first | exact HB.out | apply below_alloc | apply pw_below_drewN | apply below_drew1 | refine below_set ?_ GE122.out) | exact HB.out))⟩; have n6_ : Aside0 (Kd.C (Kd.int .i64) w20 A123_0 ((rd_T96 x4_1 (ji10)).f0).length ((rd_T96 x4_1 (ji10)).f0)) := ⟨by rw [← hq_]; exact (by repeat (first | (with_reducible exact HR123_0.out) | (with_reducible refine Kd.C_alloc ?_ _) | (with_reducible refine Kd.C_drewN ?_ _) | (with_reducible refine Kd.C_drew ?_) | exact HR123_0.out))⟩; clear HL121_0 HL123_0 HO_14 HO_4 BK122 HB HR123_0 hq_; have HL121_0 := n0_; have HL123_0 := n1_; have HO_14 := n2_; have HO_4 := n3_; have BK122 := n4_; have HB := n5_; have HR123_0 := n6_; clear n0_ n1_ n2_ n3_ n4_ n5_ n6_))
                      have n0_ := Aside0.mk (Kd.N_drew HO_4.out)
                      have n1_ := Aside0.mk (Kd.V_drew HO_14.out)
                      have n2_ := Aside0.mk (Kd.V_drew HL121_0.out)
                      have n3_ := Aside0.mk (Kd.V_drew HL123_0.out)
                      have n4_ := Aside0.mk (blk_drew BK122.out)
                      have n5_ := Aside0.mk (Kd.C_drew HR123_0.out)
                      have n6_ := Aside0.mk (below_drew1 HB.out)
                      clear HO_4
                      clear HO_14
                      clear HL121_0
                      clear HL123_0
                      clear BK122
                      clear HR123_0
                      clear HB
                      have HO_4 := n0_
                      have HO_14 := n1_
                      have HL121_0 := n2_
                      have HL123_0 := n3_
                      have BK122 := n4_
                      have HR123_0 := n5_
                      have HB := n6_
                      clear n0_ n1_ n2_ n3_ n4_ n5_ n6_
                      have p125 : 0 ≤ ((ji10) : Int) := of_decide_eq_true (by first | (with_reducible assumption) | assumption)
                      have q125 : (ji10) < (x4_1.length : Int) := of_decide_eq_true (by first | (with_reducible assumption) | assumption)
                      obtain ⟨ad125, A125_0, c125_0, e125, hx125_0, hx125_1, hl125_0, hi125_0⟩ := at_T96 (Kd.N_reads' HO_4.out).2.2 (ji10) p125 q125
                      obtain rfl : ad125 = ad123 := (by injection e125 with q_; first | exact q_ | exact q_.symm)
                      obtain ⟨ce125, hce125, hMe125, hcc125⟩ := Kd.N_get HO_4.out z96 (ji10) p125 (by first | exact q125 | exact of_decide_eq_true (by first | (with_reducible assumption) | assumption) | (have e_ := (Kd.N_reads' HO_4.out).1; omega))
                      obtain ⟨ua125_0, uc125_0, rfl, ul125_0, ge125_0⟩ := k96_openF hMe125
                      have hv125_0 := hcc125 0 _ rfl
                      rw [Nat.add_zero] at hv125_0
                      replace hv125_0 := Option.some.inj (hv125_0.symm.trans hx125_0)
                      injection hv125_0 with hva_ hvn_ hvc_
                      rw [hva_] at ge125_0
                      rw [hvc_] at ul125_0
                      have HL125_0 := Aside0.mk (show Kd.V (Kd.int .i64) 3 _ w.heap.size _ _ ((rd_T96 x4_1 (ji10)).f0) from Kd.V_mk ul125_0 ge125_0)
                      clear hva_ hvn_ hvc_ ge125_0 ul125_0
                      clear hcc125 hce125
                      have HR125_0 := Aside0.mk hi125_0
                      have HC125_0 := Aside0.mk hl125_0
                      clear hi125_0 hl125_0
                      replace p125 := eq_true p125
                      replace q125 := eq_true q125
                      have p15 : 0 ≤ ((ji10) : Int) := of_decide_eq_true (by first | (with_reducible assumption) | assumption)
                      have q15 : ((ji10) : Int) < ((x4_1.length : Int) : Int) := of_decide_eq_true (by first | (with_reducible assumption) | assumption)
                      obtain ⟨go15, co15, eo15, gb15, gl15, cl15, HG15⟩ := Kd.N_form HO_4.out (by omega)
                      (first | cases eo15 | (injection eo15 with ea_ en_ ec_; (first | subst ea_ | (injection ea_ with ea_; subst ea_)); subst ec_; clear en_))
                      have GB15 := Aside0.mk gb15
                      have GG15 := Aside0.mk HG15
                      clear gb15 gl15 HG15
                      (first | simp only [add_plain] at hx123_0 | skip)
                      (first | simp only [add_plain] at hx123_1 | skip)
                      (first | simp only [add_plain] at hx125_0 | skip)
                      (first | simp only [add_plain] at hx125_1 | skip)
                      obtain ⟨ce15, hcl15, hM15, hcc15, hfr15⟩ := Kd.N_elem HO_4.out z96 ((ji10) : Int) p15 q15
                      obtain ⟨ua15_0, uc15_0, rfl, ul15_0, ge15_0⟩ := k96_openF hM15
                      have hx15_0 : World.cell? _ ⟨go15, ((ji10) : Int).toNat * 2, none⟩ = some (.slice ua15_0 ((rd_T96 x4_1 (ji10)).f0).length uc15_0) := hcc15 0 _ rfl
                      have hx15_1 : World.cell? _ ⟨go15, ((ji10) : Int).toNat * 2 + 1, none⟩ = some (.int .i64 ((rd_T96 x4_1 (ji10)).f1)) := hcc15 1 _ rfl
                      have hf15_0 : World.frozen? _ ⟨go15, ((ji10) : Int).toNat * 2, none⟩ = false := hfr15 0
                      have hf15_1 : World.frozen? _ ⟨go15, ((ji10) : Int).toNat * 2 + 1, none⟩ = false := hfr15 1
                      clear hcl15 hcc15 hfr15 hM15
                      replace p15 := eq_true p15
                      replace q15 := eq_true q15
                      have HX22 := Aside0.mk (show Kd.N k96 96 _ w.heap.size (fun k_ => (P0_ k_ ∨ w.heap.size ≤ k_) ∧ k_ ≠ gb122) (.slice (some ⟨go15, 0, none⟩) x4_1.length co18) x4_1 from (Kd.N_mono (HO_4.out) (fun k_ hk => ⟨hk.1, hk.2⟩)))
                      obtain ⟨ce22, hcl22, hM22, hcc22, hfr22⟩ := Kd.N_elem HX22.out z96 ((ji10) : Int) (of_decide_eq_true (by first | (with_reducible assumption) | assumption)) (by have h_ : ((ji10) : Int) < ((x4_1.length : Int) : Int) := of_decide_eq_true (by first | (with_reducible assumption) | assumption); first | exact h_ | (have e_ := (Kd.N_reads' HO_4.out).1; omega) | simpa using h_)
                      obtain ⟨ua22_0, uc22_0, rfl, ul22_0, ge22_0⟩ := k96_openF hM22
                      have HP22 := (Kd.N_seg HX22.out ((ji10) : Int) (of_decide_eq_true (by first | (with_reducible assumption) | assumption)) (by have h_ : ((ji10) : Int) < ((x4_1.length : Int) : Int) := of_decide_eq_true (by first | (with_reducible assumption) | assumption); first | exact h_ | (have e_ := (Kd.N_reads' HO_4.out).1; omega) | simpa using h_) (seg := [.int .i64 (wrap64 (((rd_T96 x4_1 (ji10)).f1) + ((rd_T96 x14_1 x16_1).f1)))]) (j := 1) hcl22 hcc22 (show 2 ≤ 2 from by decide) (x' := (⟨(rd_T96 x4_1 (ji10)).f0, wrap64 (((rd_T96 x4_1 (ji10)).f1) + ((rd_T96 x14_1 x16_1).f1))⟩ : S96)) (k96_mkF _ _ (⟨(rd_T96 x4_1 (ji10)).f0, wrap64 (((rd_T96 x4_1 (ji10)).f1) + ((rd_T96 x14_1 x16_1).f1))⟩ : S96) ul22_0 ge22_0) (fun _ hk => hk)).1
                      rw [← Ny126.out] at HP22
                      have HQ22 := Aside0.mk HP22
                      clear hcl22 hcc22 hfr22 hM22 HP22
                      refine start_ (n := 12) (S := fun w' => w'.cell? ⟨gb122, 0, none⟩ = some (.slice A121_0 ((rd_T96 x14_1 x16_1).f0).length c121_0) ∧ w'.cell? ⟨gb122, 1, none⟩ = some (.int .i64 ((rd_T96 x14_1 x16_1).f1)) ∧ w'.cell? ⟨go15, (ji10).toNat * 2, none⟩ = some (.slice A125_0 ((rd_T96 x4_1 (ji10)).f0).length c125_0) ∧ w'.cell? ⟨go15, (ji10).toNat * 2 + 1, none⟩ = some (.int .i64 ((rd_T96 x4_1 (ji10)).f1))) (ds := [11]) #[false, false, false, false, false, false, false, false, false, false, false, false] (by kernel_rfl) rfl rfl ⟨(blk_cell BK122.out 0).trans rfl, (blk_cell BK122.out 1).trans rfl, hx125_0, hx125_1⟩ (fun hHeld => ?_); refine with_tabW dist_tidy_rest.tab9 dist_tidy_rest.bits9 (fun HT_ HW_ => ?_)
                      generalize w20.drew = w21 at HO_4 HO_14 HL121_0 HL123_0 BK122 HR123_0 HB GG15 HL125_0 HQ22 HR125_0 hf15_0 hf15_1 hx123_0 hx123_1 hx125_0 hx125_1 hx15_0 hx15_1 hHeld ⊢
                      refine pure_ (i := 0) (N := some 38) (v := ?_) (a' := ?_) #[true, false, false, false, false, false, false, false, false, false, false, false] rfl rfl (any_of HT_.out (by kernel_rfl)) (fun _ _ _ h => h) (Or.inl ⟨by rfl, ?_⟩) ?_ ?_
                      rotate_left
                      · intro w'
                        go_simp
                        with_reducible rfl
                      rotate_left
                      · simp only [Act.put, List.setIfInBounds_toArray, List.set_cons_zero, List.set_cons_succ, i64_w, i32_w]
                        rfl
                      refine pure_ (i := 1) (N := some 39) (v := ?_) (a' := ?_) #[true, true, false, false, false, false, false, false, false, false, false, false] rfl rfl (any_of HT_.out (by kernel_rfl)) (fun _ _ _ h => h) (Or.inl ⟨by rfl, ?_⟩) ?_ ?_
                      rotate_left
                      · intro w'
                        go_simp
                        with_reducible rfl
                      rotate_left
                      · simp only [Act.put, List.setIfInBounds_toArray, List.set_cons_zero, List.set_cons_succ, i64_w, i32_w]
                        rfl
                      refine pure_ (i := 2) (N := some 40) (v := ?_) (a' := ?_) #[true, true, true, false, false, false, false, false, false, false, false, false] rfl rfl (any_of HT_.out (by kernel_rfl)) (fun _ _ _ h => h) (Or.inl ⟨by rfl, ?_⟩) ?_ ?_
                      rotate_left
                      · intro w'
                        go_simp
                        with_reducible rfl
                      rotate_left
                      · simp only [Act.put, List.setIfInBounds_toArray, List.set_cons_zero, List.set_cons_succ, i64_w, i32_w]
                        rfl
                      refine pure_ (i := 3) (N := some 41) (v := ?_) (a' := ?_) #[true, true, true, true, false, false, false, false, false, false, false, false] rfl rfl (any_of HT_.out (by kernel_rfl)) (fun _ _ _ h => h) (Or.inl ⟨by rfl, ?_⟩) ?_ ?_
                      rotate_left
                      · intro w'
                        go_simp
                        with_reducible rfl
                      rotate_left
                      · simp only [Act.put, List.setIfInBounds_toArray, List.set_cons_zero, List.set_cons_succ, i64_w, i32_w]
                        rfl
                      refine pure_ (i := 4) (N := some 42) (v := ?_) (a' := ?_) #[true, true, true, true, true, false, false, false, false, false, false, false] rfl rfl (any_of HT_.out (by kernel_rfl)) (fun _ _ _ h => h) (Or.inl ⟨by rfl, ?_⟩) ?_ ?_
                      rotate_left
                      · intro w'
                        go_simp
                        with_reducible rfl
                      rotate_left
                      · simp only [Act.put, List.setIfInBounds_toArray, List.set_cons_zero, List.set_cons_succ, i64_w, i32_w]
                        rfl
                      refine pure_ (i := 6) (N := some 44) (v := ?_) (a' := ?_) #[true, true, true, true, true, false, true, false, false, false, false, false] rfl rfl (any_of HT_.out (by kernel_rfl)) (fun _ _ _ h => h) (Or.inl ⟨by rfl, ?_⟩) ?_ ?_
                      rotate_left
                      · intro w'
                        go_simp
                        with_reducible rfl
                      rotate_left
                      · simp only [Act.put, List.setIfInBounds_toArray, List.set_cons_zero, List.set_cons_succ, i64_w, i32_w]
                        rfl
                      refine take_ (i := 5) (N := some 43) (v := ?_) (a' := ?_) #[true, true, true, true, true, true, true, false, false, false, false, false] rfl rfl (take_ofW HT_.out HW_.out (by kernel_rfl)) (fun _ _ _ h => h) (Or.inl ⟨by rfl, ?_⟩) hHeld ?_ ?_
                      rotate_left
                      · rintro w' ⟨s0, s1, s2, s3⟩
                        go_simp
                        with_reducible rfl
                      rotate_left
                      · simp only [Act.put, List.setIfInBounds_toArray, List.set_cons_zero, List.set_cons_succ, i64_w, i32_w]
                        rfl
                      refine take_ (i := 7) (N := some 45) (v := ?_) (a' := ?_) #[true, true, true, true, true, true, true, true, false, false, false, false] rfl rfl (take_ofW HT_.out HW_.out (by kernel_rfl)) (fun _ _ _ h => h) (Or.inl ⟨by rfl, ?_⟩) hHeld ?_ ?_
                      rotate_left
                      · rintro w' ⟨s0, s1, s2, s3⟩
                        go_simp
                        with_reducible rfl
                      rotate_left
                      · simp only [Act.put, List.setIfInBounds_toArray, List.set_cons_zero, List.set_cons_succ, i64_w, i32_w]
                        rfl
                      refine pure_ (i := 8) (N := some 46) (v := ?_) (a' := ?_) #[true, true, true, true, true, true, true, true, true, false, false, false] rfl rfl (any_of HT_.out (by kernel_rfl)) (fun _ _ _ h => h) (Or.inl ⟨by rfl, ?_⟩) ?_ ?_
                      rotate_left
                      · intro w'
                        go_simp
                        with_reducible rfl
                      rotate_left
                      · simp only [Act.put, List.setIfInBounds_toArray, List.set_cons_zero, List.set_cons_succ, i64_w, i32_w]
                        rfl
                      refine pure_ (i := 9) (N := some 47) (v := ?_) (a' := ?_) #[true, true, true, true, true, true, true, true, true, true, false, false] rfl rfl (any_of HT_.out (by kernel_rfl)) (fun _ _ _ h => h) (Or.inl ⟨by rfl, ?_⟩) ?_ ?_
                      rotate_left
                      · intro w'
                        go_simp
                        with_reducible rfl
                      rotate_left
                      · simp only [Act.put, List.setIfInBounds_toArray, List.set_cons_zero, List.set_cons_succ, i64_w, i32_w]
                        rfl
                      refine pure_ (i := 10) (N := some 48) (v := ?_) (a' := ?_) #[true, true, true, true, true, true, true, true, true, true, true, false] rfl rfl (any_of HT_.out (by kernel_rfl)) (fun _ _ _ h => h) (Or.inl ⟨by rfl, ?_⟩) ?_ ?_
                      rotate_left
                      · intro w'
                        go_simp
                        with_reducible rfl
                      rotate_left
                      · simp only [Act.put, List.setIfInBounds_toArray, List.set_cons_zero, List.set_cons_succ, i64_w, i32_w]
                        rfl
                      refine last_ (i := 11) (N := none) #[true, true, true, true, true, true, true, true, true, true, true, true] rfl rfl (one_of HT_.out (by kernel_rfl)) (by decide) (fun K hK => ?_)
                      refine skip_ (w1 := ?_) (by rfl) rfl ?_ ?_
                      rotate_left
                      · go_simp
                        rfl
                      refine hK.out _ _ ?_
                      clear hK K
                      refine done_ (done_of HT_.out (by kernel_rfl)) ?_
                      try go_wp2
                      (try simp only [← hl14_1])
                      go_roundg k1
                      case measure => have := HK1.out; omega
                      case rel => exact ⟨(y126), (x14_1), (wrap64 (x16_1 + 1)), (by first | rfl | (simp; done) | (simp [*]; done)), H', ⟨by have := HK1.out; omega⟩, ⟨by (try simp only [hl14_1]); (with_reducible repeat (first | apply Kd.N_alloc | apply Kd.N_drewN | apply Kd.N_drew)); exact Kd.N_mono HQ22.out (fun _ hk => hk.1)⟩, ⟨by (try simp only [hl14_1]); (with_reducible repeat (first | apply Kd.V_alloc | apply Kd.V_drewN | apply Kd.V_drew)); exact Kd.V_mono (Kd.V_far (p := ⟨go15, ((ji10) : Int).toNat * 2 + 1, none⟩) (Kd.V_mono HO_14.out (fun k_ hk => (⟨hk, fun e_ => hk.2.1 (by rw [e_]; rfl)⟩ : _ ∧ k_ ≠ go15))) (fun _ hk => hk.2) (.int .i64 (wrap64 (((rd_T96 x4_1 (ji10)).f1) + ((rd_T96 x14_1 x16_1).f1))))) (fun _ hk => ⟨hk.1.1, hk.1.2.1⟩)⟩, ⟨by repeat (first | (with_reducible first | exact HB.out | apply below_alloc | apply pw_below_drewN | apply below_drew1 | refine below_set ?_ GB15.out | refine below_set ?_ GE122.out) | exact HB.out)⟩⟩
                    · replace c14 := Bool.eq_false_iff.mpr c14
                      subst c14
                      have H1 : (if x4_1.length < 4398046511104 then (dist_tidy_rest.l0 k1 (x4_1 ++ [(⟨(rd_T96 x14_1 x16_1).f0, (rd_T96 x14_1 x16_1).f1⟩ : S96)]) x14_1 (l0.length : Int) (wrap64 (x16_1 + 1))) else (none)) = some (r1, r2) := by rw [if_neg (show ¬ (false = true) by decide)] at H; exact H
                      clear H
                      have H := H1
                      clear H1
                      by_cases c23 : x4_1.length < 4398046511104
                      · rw [if_pos c23] at H
                        have LMc23 := Aside0.mk c23
                        clear c23
                        obtain ⟨y127, hy127⟩ : ∃ y_ : List (S96), y_ = (x4_1 ++ [(⟨(rd_T96 x14_1 x16_1).f0, (rd_T96 x14_1 x16_1).f1⟩ : S96)]) := ⟨_, rfl⟩
                        replace H : (dist_tidy_rest.l0 k1 y127 x14_1 (l0.length : Int) (wrap64 (x16_1 + 1))) = some (r1, r2) := by first | (rw [hy127]; with_reducible exact H) | (have H2_ := (Option.bind_some _ _).symm.trans H; rw [hy127]; with_reducible exact H2_) | (have H2_ := (Option.bind_some _ _).symm.trans H; with_reducible exact H2_) | with_reducible exact H | (rw [hy127]; exact H) | exact H
                        have Ny127 := Aside0.mk hy127
                        clear hy127
                        have H' := Aside0.mk H
                        clear H
                        have p121 : 0 ≤ (x16_1 : Int) := of_decide_eq_true (by first | (with_reducible assumption) | assumption)
                        have q121 : x16_1 < (x14_1.length : Int) := of_decide_eq_true (by first | (with_reducible assumption) | assumption)
                        obtain ⟨ad121, A121_0, c121_0, e121, hx121_0, hx121_1, hl121_0, hi121_0⟩ := at_T96 (Kd.V_reads' HO_14.out).2.2 x16_1 p121 q121
                        cases e121
                        obtain ⟨ce121, hce121, hMe121, hcc121⟩ := Kd.V_get HO_14.out z96 x16_1 p121 (by first | exact q121 | exact of_decide_eq_true (by first | (with_reducible assumption) | assumption) | (have e_ := (Kd.V_reads' HO_14.out).1; omega))
                        obtain ⟨ua121_0, uc121_0, rfl, ul121_0, ge121_0⟩ := k96_openF hMe121
                        have hv121_0 := hcc121 0 _ rfl
                        rw [Nat.add_zero] at hv121_0
                        replace hv121_0 := Option.some.inj (hv121_0.symm.trans hx121_0)
                        injection hv121_0 with hva_ hvn_ hvc_
                        rw [hva_] at ge121_0
                        rw [hvc_] at ul121_0
                        have HL121_0 := Aside0.mk (show Kd.V (Kd.int .i64) 3 _ w.heap.size _ _ ((rd_T96 x14_1 x16_1).f0) from Kd.V_mk ul121_0 ge121_0)
                        clear hva_ hvn_ hvc_ ge121_0 ul121_0
                        clear hcc121 hce121
                        have HR121_0 := Aside0.mk hi121_0
                        have HC121_0 := Aside0.mk hl121_0
                        clear hi121_0 hl121_0
                        replace p121 := eq_true p121
                        replace q121 := eq_true q121
                        try go_wp2_with (first | ((with_reducible refine gate_dst (N := 6) rfl ?_); (try (refine gate_guard (by rfl) ?_; dsimp only)); refine box_event ?hg (N := 6) ?hd (cs := #[.slice none 0 0, .int .i64 0]) (t := 96) ?hr ?_; (case hd => rfl); (case hg => rfl); (case hr => first | (go_simp; done) | (go_simp; rfl)); intro gb122 hg w24 hbox hb; have n0_ := Aside0.mk (Kd.N_below (Kd.N_elderB (by (with_reducible repeat (first | apply Kd.N_alloc | apply Kd.N_drewN | apply Kd.N_drew)); exact HO_4.out) gb122 (Nat.le_of_eq hg.symm)) hb); have n1_ := Aside0.mk (Kd.V_below (Kd.V_elderB (by (with_reducible repeat (first | apply Kd.V_alloc | apply Kd.V_drewN | apply Kd.V_drew)); exact HO_14.out) gb122 (Nat.le_of_eq hg.symm)) hb); have n2_ := Aside0.mk (Kd.V_below (Kd.V_elderB (by (with_reducible repeat (first | apply Kd.V_alloc | apply Kd.V_drewN | apply Kd.V_drew)); exact HL121_0.out) gb122 (Nat.le_of_eq hg.symm)) hb); have n3_ := Aside0.mk (Kd.C_below (by repeat (first | (with_reducible exact HR121_0.out) | (with_reducible refine Kd.C_alloc ?_ _) | (with_reducible refine Kd.C_drewN ?_ _) | (with_reducible refine Kd.C_drew ?_) | exact HR121_0.out)) hb); have n4_ := Aside0.mk (below_step (by repeat (first | (with_reducible first | exact HB.out | apply below_alloc | apply pw_below_drewN | apply below_drew1) | exact HB.out)) hb); have n5_ := Aside0.mk (hbox); have n6_ := Aside0.mk ((by rw [hg]; exact (below_size (by repeat (first | (with_reducible first | exact HB.out | apply below_alloc | apply pw_below_drewN | apply below_drew1) | exact HB.out))) : w.heap.size ≤ gb122)); have n7_ := Aside0.mk ((by rw [hg]; exact (below_size (by repeat (first | (with_reducible first | exact HB.out | apply below_alloc | apply pw_below_drewN | apply below_drew1) | exact HB.out))) : w.heap.size ≤ gb122)); clear HO_4; clear HO_14; clear HL121_0; clear HR121_0; clear HB; have HO_4 := n0_; have HO_14 := n1_; have HL121_0 := n2_; have HR121_0 := n3_; have HB := n4_; have BK122 := n5_; have GW122 := n6_; have GE122 := n7_; clear n0_ n1_ n2_ n3_ n4_ n5_ n6_ n7_; clear hb hbox hg; have hcz25_0 : w24.cell? ⟨gb122, 0, none⟩ = some (.slice none 0 0) := (blk_cell BK122.out 0).trans rfl; have hcz25_1 : w24.cell? ⟨gb122, 1, none⟩ = some (.int .i64 0) := (blk_cell BK122.out 1).trans rfl; have hfz25_0 := blk_frozen BK122.out 0; have hfz25_1 := blk_frozen BK122.out 1; obtain ⟨Ao26, co26, eo26⟩ := Kd.N_slice HO_4.out; subst eo26))
                        have n0_ : Aside0 (Kd.N k96 96 ((w24.setCell ⟨gb122, 0, none⟩ (.slice A121_0 ((rd_T96 x14_1 x16_1).f0).length c121_0)).setCell ⟨gb122, 1, none⟩ (.int .i64 ((rd_T96 x14_1 x16_1).f1))) w.heap.size (fun k_ => (P0_ k_ ∨ w.heap.size ≤ k_) ∧ k_ ≠ gb122) (.slice Ao26 x4_1.length co26) x4_1) := ⟨by (with_reducible repeat (first | apply Kd.N_alloc | apply Kd.N_drewN | apply Kd.N_drew)); exact Kd.N_mono (Kd.N_far (p := ⟨gb122, 1, none⟩) (Kd.N_far (p := ⟨gb122, 0, none⟩) (Kd.N_mono HO_4.out (fun k_ hk => (⟨hk, hk.2⟩ : _ ∧ k_ ≠ gb122))) (fun _ hk => hk.2) (.slice A121_0 ((rd_T96 x14_1 x16_1).f0).length c121_0)) (fun _ hk => hk.2) (.int .i64 ((rd_T96 x14_1 x16_1).f1))) (fun _ hk => ⟨hk.1.1, hk.1.2⟩)⟩
                        have n1_ : Aside0 (Kd.V k96 96 ((w24.setCell ⟨gb122, 0, none⟩ (.slice A121_0 ((rd_T96 x14_1 x16_1).f0).length c121_0)).setCell ⟨gb122, 1, none⟩ (.int .i64 ((rd_T96 x14_1 x16_1).f1))) w.heap.size (fun k_ => (P0_ k_ ∨ w.heap.size ≤ k_) ∧ some k_ ≠ (.slice Ao26 x4_1.length co26 : Value).ownBlock ∧ k_ ≠ gb122) (.slice (some ad121) x14_1.length c0) x14_1) := ⟨by (with_reducible repeat (first | apply Kd.V_alloc | apply Kd.V_drewN | apply Kd.V_drew)); exact Kd.V_mono (Kd.V_far (p := ⟨gb122, 1, none⟩) (Kd.V_far (p := ⟨gb122, 0, none⟩) (Kd.V_mono HO_14.out (fun k_ hk => (⟨hk, hk.2⟩ : _ ∧ k_ ≠ gb122))) (fun _ hk => hk.2) (.slice A121_0 ((rd_T96 x14_1 x16_1).f0).length c121_0)) (fun _ hk => hk.2) (.int .i64 ((rd_T96 x14_1 x16_1).f1))) (fun _ hk => ⟨hk.1.1.1, ⟨hk.1.1.2, hk.1.2⟩⟩)⟩
                        have n2_ : Aside0 (Kd.V (Kd.int .i64) 3 ((w24.setCell ⟨gb122, 0, none⟩ (.slice A121_0 ((rd_T96 x14_1 x16_1).f0).length c121_0)).setCell ⟨gb122, 1, none⟩ (.int .i64 ((rd_T96 x14_1 x16_1).f1))) w.heap.size (fun k_ => (P0_ k_ ∨ w.heap.size ≤ k_) ∧ some k_ ≠ (.slice Ao26 x4_1.length co26 : Value).ownBlock ∧ k_ ≠ gb122) (.slice A121_0 ((rd_T96 x14_1 x16_1).f0).length c121_0) ((rd_T96 x14_1 x16_1).f0)) := ⟨by (with_reducible repeat (first | apply Kd.V_alloc | apply Kd.V_drewN | apply Kd.V_drew)); exact Kd.V_mono (Kd.V_far (p := ⟨gb122, 1, none⟩) (Kd.V_far (p := ⟨gb122, 0, none⟩) (Kd.V_mono HL121_0.out (fun k_ hk => (⟨hk, hk.2⟩ : _ ∧ k_ ≠ gb122))) (fun _ hk => hk.2) (.slice A121_0 ((rd_T96 x14_1 x16_1).f0).length c121_0)) (fun _ hk => hk.2) (.int .i64 ((rd_T96 x14_1 x16_1).f1))) (fun _ hk => ⟨hk.1.1.1, ⟨hk.1.1.2, hk.1.2⟩⟩)⟩
                        have n3_ : Aside0 (((w24.setCell ⟨gb122, 0, none⟩ (.slice A121_0 ((rd_T96 x14_1 x16_1).f0).length c121_0)).setCell ⟨gb122, 1, none⟩ (.int .i64 ((rd_T96 x14_1 x16_1).f1))).heap[gb122]? = some (.cells #[.slice A121_0 ((rd_T96 x14_1 x16_1).f0).length c121_0, .int .i64 ((rd_T96 x14_1 x16_1).f1)] 96 (0, 0))) := ⟨by (with_reducible repeat (first | refine blk_drewN ?_ _ | refine blk_drew ?_ | refine blk_alloc ?_ _)); refine blk_put (cs := #[.slice A121_0 ((rd_T96 x14_1 x16_1).f0).length c121_0, .int .i64 0]) ?_ 1 _ rfl; (with_reducible repeat (first | refine blk_drewN ?_ _ | refine blk_drew ?_ | refine blk_alloc ?_ _)); refine blk_put (cs := #[.slice none 0 0, .int .i64 0]) ?_ 0 _ rfl; (with_reducible repeat (first | refine blk_drewN ?_ _ | refine blk_drew ?_ | refine blk_alloc ?_ _)); exact BK122.out⟩
                        have n4_ : Aside0 (Below w.heap.size w ((w24.setCell ⟨gb122, 0, none⟩ (.slice A121_0 ((rd_T96 x14_1 x16_1).f0).length c121_0)).setCell ⟨gb122, 1, none⟩ (.int .i64 ((rd_T96 x14_1 x16_1).f1)))) := ⟨by repeat (first | (with_reducible first | exact HB.out | apply below_alloc | apply pw_below_drewN | apply below_drew1 | refine below_set ?_ GE122.out) | exact HB.out)⟩
                        (try clear HO_4)
                        (try clear HO_14)
                        (try clear HL121_0)
                        (try clear BK122)
                        (try clear HB)
                        generalize ((w24.setCell ⟨gb122, 0, none⟩ (.slice A121_0 ((rd_T96 x14_1 x16_1).f0).length c121_0)).setCell ⟨gb122, 1, none⟩ (.int .i64 ((rd_T96 x14_1 x16_1).f1))) = w27 at n0_ n1_ n2_ n3_ n4_ ⊢
                        have HO_4 := n0_
                        have HO_14 := n1_
                        have HL121_0 := n2_
                        have BK122 := n3_
                        have HB := n4_
                        clear n0_ n1_ n2_ n3_ n4_
                        have n0_ := Aside0.mk (Kd.N_drew HO_4.out)
                        have n1_ := Aside0.mk (Kd.V_drew HO_14.out)
                        have n2_ := Aside0.mk (Kd.V_drew HL121_0.out)
                        have n3_ := Aside0.mk (blk_drew BK122.out)
                        have n4_ := Aside0.mk (below_drew1 HB.out)
                        clear HO_4
                        clear HO_14
                        clear HL121_0
                        clear BK122
                        clear HB
                        have HO_4 := n0_
                        have HO_14 := n1_
                        have HL121_0 := n2_
                        have BK122 := n3_
                        have HB := n4_
                        clear n0_ n1_ n2_ n3_ n4_
                        have p123 : 0 ≤ ((ji10) : Int) := of_decide_eq_true (by first | (with_reducible assumption) | assumption)
                        have q123 : (ji10) < (x4_1.length : Int) := of_decide_eq_true (by first | (with_reducible assumption) | assumption)
                        obtain ⟨ad123, A123_0, c123_0, e123, hx123_0, hx123_1, hl123_0, hi123_0⟩ := at_T96 (Kd.N_reads' HO_4.out).2.2 (ji10) p123 q123
                        cases e123
                        obtain ⟨ce123, hce123, hMe123, hcc123⟩ := Kd.N_get HO_4.out z96 (ji10) p123 (by first | exact q123 | exact of_decide_eq_true (by first | (with_reducible assumption) | assumption) | (have e_ := (Kd.N_reads' HO_4.out).1; omega))
                        obtain ⟨ua123_0, uc123_0, rfl, ul123_0, ge123_0⟩ := k96_openF hMe123
                        have hv123_0 := hcc123 0 _ rfl
                        rw [Nat.add_zero] at hv123_0
                        replace hv123_0 := Option.some.inj (hv123_0.symm.trans hx123_0)
                        injection hv123_0 with hva_ hvn_ hvc_
                        rw [hva_] at ge123_0
                        rw [hvc_] at ul123_0
                        have HL123_0 := Aside0.mk (show Kd.V (Kd.int .i64) 3 _ w.heap.size _ _ ((rd_T96 x4_1 (ji10)).f0) from Kd.V_mk ul123_0 ge123_0)
                        clear hva_ hvn_ hvc_ ge123_0 ul123_0
                        clear hcc123 hce123
                        have HR123_0 := Aside0.mk hi123_0
                        have HC123_0 := Aside0.mk hl123_0
                        clear hi123_0 hl123_0
                        replace p123 := eq_true p123
                        replace q123 := eq_true q123
                        refine start_ (n := 13) (S := fun w' => w'.cell? ⟨gb122, 0, none⟩ = some (.slice A121_0 ((rd_T96 x14_1 x16_1).f0).length c121_0) ∧ w'.cell? ⟨gb122, 1, none⟩ = some (.int .i64 ((rd_T96 x14_1 x16_1).f1)) ∧ w'.cell? (ad123.add (((ji10)).toNat * 2)) = some (.slice A123_0 ((rd_T96 x4_1 (ji10)).f0).length c123_0) ∧ w'.cell? ⟨(ad123.add (((ji10)).toNat * 2)).block, (ad123.add (((ji10)).toNat * 2)).off + 1, none⟩ = some (.int .i64 ((rd_T96 x4_1 (ji10)).f1))) (ds := []) #[false, false, false, false, false, false, false, false, false, false, false, false, false] (by kernel_rfl) rfl rfl ⟨(blk_cell BK122.out 0).trans rfl, (blk_cell BK122.out 1).trans rfl, hx123_0, hx123_1⟩ (fun hHeld => ?_); refine with_tabW dist_tidy_rest.tab8 dist_tidy_rest.bits8 (fun HT_ HW_ => ?_)
                        generalize w27.drew = w28 at HO_4 HO_14 HL121_0 BK122 HB HL123_0 HR123_0 hx123_0 hx123_1 hHeld ⊢
                        refine pure_ (i := 0) (N := some 25) (v := ?_) (a' := ?_) #[true, false, false, false, false, false, false, false, false, false, false, false, false] rfl rfl (any_of HT_.out (by kernel_rfl)) (fun _ _ _ h => h) (Or.inl ⟨by rfl, ?_⟩) ?_ ?_
                        rotate_left
                        · intro w'
                          go_simp
                          with_reducible rfl
                        rotate_left
                        · simp only [Act.put, List.setIfInBounds_toArray, List.set_cons_zero, List.set_cons_succ, i64_w, i32_w]
                          rfl
                        refine pure_ (i := 1) (N := some 26) (v := ?_) (a' := ?_) #[true, true, false, false, false, false, false, false, false, false, false, false, false] rfl rfl (any_of HT_.out (by kernel_rfl)) (fun _ _ _ h => h) (Or.inl ⟨by rfl, ?_⟩) ?_ ?_
                        rotate_left
                        · intro w'
                          go_simp
                          with_reducible rfl
                        rotate_left
                        · simp only [Act.put, List.setIfInBounds_toArray, List.set_cons_zero, List.set_cons_succ, i64_w, i32_w]
                          rfl
                        refine pure_ (i := 2) (N := some 27) (v := ?_) (a' := ?_) #[true, true, true, false, false, false, false, false, false, false, false, false, false] rfl rfl (any_of HT_.out (by kernel_rfl)) (fun _ _ _ h => h) (Or.inl ⟨by rfl, ?_⟩) ?_ ?_
                        rotate_left
                        · intro w'
                          go_simp
                          with_reducible rfl
                        rotate_left
                        · simp only [Act.put, List.setIfInBounds_toArray, List.set_cons_zero, List.set_cons_succ, i64_w, i32_w]
                          rfl
                        refine pure_ (i := 3) (N := some 28) (v := ?_) (a' := ?_) #[true, true, true, true, false, false, false, false, false, false, false, false, false] rfl rfl (any_of HT_.out (by kernel_rfl)) (fun _ _ _ h => h) (Or.inl ⟨by rfl, ?_⟩) ?_ ?_
                        rotate_left
                        · intro w'
                          go_simp
                          with_reducible rfl
                        rotate_left
                        · simp only [Act.put, List.setIfInBounds_toArray, List.set_cons_zero, List.set_cons_succ, i64_w, i32_w]
                          rfl
                        refine pure_ (i := 4) (N := some 29) (v := ?_) (a' := ?_) #[true, true, true, true, true, false, false, false, false, false, false, false, false] rfl rfl (any_of HT_.out (by kernel_rfl)) (fun _ _ _ h => h) (Or.inl ⟨by rfl, ?_⟩) ?_ ?_
                        rotate_left
                        · intro w'
                          go_simp
                          with_reducible rfl
                        rotate_left
                        · simp only [Act.put, List.setIfInBounds_toArray, List.set_cons_zero, List.set_cons_succ, i64_w, i32_w]
                          rfl
                        refine pure_ (i := 5) (N := some 30) (v := ?_) (a' := ?_) #[true, true, true, true, true, true, false, false, false, false, false, false, false] rfl rfl (any_of HT_.out (by kernel_rfl)) (fun _ _ _ h => h) (Or.inl ⟨by rfl, ?_⟩) ?_ ?_
                        rotate_left
                        · intro w'
                          go_simp
                          with_reducible rfl
                        rotate_left
                        · simp only [Act.put, List.setIfInBounds_toArray, List.set_cons_zero, List.set_cons_succ, i64_w, i32_w]
                          rfl
                        refine pure_ (i := 6) (N := some 31) (v := ?_) (a' := ?_) #[true, true, true, true, true, true, true, false, false, false, false, false, false] rfl rfl (any_of HT_.out (by kernel_rfl)) (fun _ _ _ h => h) (Or.inl ⟨by rfl, ?_⟩) ?_ ?_
                        rotate_left
                        · intro w'
                          go_simp
                          with_reducible rfl
                        rotate_left
                        · simp only [Act.put, List.setIfInBounds_toArray, List.set_cons_zero, List.set_cons_succ, i64_w, i32_w]
                          rfl
                        refine pure_ (i := 7) (N := some 32) (v := ?_) (a' := ?_) #[true, true, true, true, true, true, true, true, false, false, false, false, false] rfl rfl (any_of HT_.out (by kernel_rfl)) (fun _ _ _ h => h) (Or.inl ⟨by rfl, ?_⟩) ?_ ?_
                        rotate_left
                        · intro w'
                          go_simp
                          with_reducible rfl
                        rotate_left
                        · simp only [Act.put, List.setIfInBounds_toArray, List.set_cons_zero, List.set_cons_succ, i64_w, i32_w]
                          rfl
                        refine pure_ (i := 9) (N := some 34) (v := ?_) (a' := ?_) #[true, true, true, true, true, true, true, true, false, true, false, false, false] rfl rfl (any_of HT_.out (by kernel_rfl)) (fun _ _ _ h => h) (Or.inl ⟨by rfl, ?_⟩) ?_ ?_
                        rotate_left
                        · intro w'
                          go_simp
                          with_reducible rfl
                        rotate_left
                        · simp only [Act.put, List.setIfInBounds_toArray, List.set_cons_zero, List.set_cons_succ, i64_w, i32_w]
                          rfl
                        refine take_ (i := 8) (N := some 33) (v := ?_) (a' := ?_) #[true, true, true, true, true, true, true, true, true, true, false, false, false] rfl rfl (take_ofW HT_.out HW_.out (by kernel_rfl)) (fun _ _ _ h => h) (Or.inl ⟨by rfl, ?_⟩) hHeld ?_ ?_
                        rotate_left
                        · rintro w' ⟨s0, s1, s2, s3⟩
                          go_simp
                          with_reducible rfl
                        rotate_left
                        · simp only [Act.put, List.setIfInBounds_toArray, List.set_cons_zero, List.set_cons_succ, i64_w, i32_w]
                          rfl
                        refine take_ (i := 10) (N := some 35) (v := ?_) (a' := ?_) #[true, true, true, true, true, true, true, true, true, true, true, false, false] rfl rfl (take_ofW HT_.out HW_.out (by kernel_rfl)) (fun _ _ _ h => h) (Or.inl ⟨by rfl, ?_⟩) hHeld ?_ ?_
                        rotate_left
                        · rintro w' ⟨s0, s1, s2, s3⟩
                          go_simp
                          with_reducible rfl
                        rotate_left
                        · simp only [Act.put, List.setIfInBounds_toArray, List.set_cons_zero, List.set_cons_succ, i64_w, i32_w]
                          rfl
                        refine one_ (i := 11) (N := some 36) #[true, true, true, true, true, true, true, true, true, true, true, true, false] rfl rfl (one_of HT_.out (by kernel_rfl)) (by decide) (fun K hK => ?_)
                        refine goes_ Try.func119 (by kernel_rfl) rfl #[.slice A123_0 ((rd_T96 x4_1 (ji10)).f0).length c123_0, .slice A121_0 ((rd_T96 x14_1 x16_1).f0).length c121_0] (by rfl) rfl rfl (by (try simp only [List.map_toArray, List.map_cons, List.map_nil]); first | done | (simp only [hji10]; rfl) | rfl | (simp only [List.length_drop, List.length_take]; rfl)) ?_
                        with_reducible refine (slices_Equal_int_int.calls k1 _ _ ((rd_T96 x4_1 (ji10)).f0) _ _ ((rd_T96 x14_1 x16_1).f0) false _ ?side1 ?side2 ?side3 ?side4 A13.out).mono ?_
                        (case side1 => repeat (first | exact (by repeat (first | (with_reducible exact HR123_0.out) | (with_reducible refine Kd.C_alloc ?_ _) | (with_reducible refine Kd.C_drewN ?_ _) | (with_reducible refine Kd.C_drew ?_) | exact HR123_0.out)) | (with_reducible refine Kd.C_alloc ?_ _) | (with_reducible refine Kd.C_drewN ?_ _) | (with_reducible refine Kd.C_drew ?_)))
                        (case side2 => exact HC123_0.out)
                        (case side3 => repeat (first | exact ((Kd.V_reads' (by (with_reducible repeat (first | apply Kd.V_alloc | apply Kd.V_drewN | apply Kd.V_drew)); exact HL121_0.out)).2.2) | (with_reducible refine Kd.C_alloc ?_ _) | (with_reducible refine Kd.C_drewN ?_ _) | (with_reducible refine Kd.C_drew ?_)))
                        (case side4 => exact HC121_0.out)
                        rintro e w' ⟨rfl, ⟨nd, rfl⟩⟩
                        refine ⟨_, rfl, ?_⟩
                        refine hK.out _ _ ⟨(blk_cell BK122.out 0).trans rfl, (blk_cell BK122.out 1).trans rfl, hHeld.2.2.1, hHeld.2.2.2⟩ (fun hHeld => ?_)
                        clear hK K
                        refine norm_ (a' := ?_) ?_ ?_
                        rotate_left
                        · show Act.put _ (some 36) _ = _
                          simp only [Act.put, List.setIfInBounds_toArray, List.set_cons_zero, List.set_cons_succ, i64_w, i32_w]
                          rfl
                        refine pure_ (i := 12) (N := some 37) (v := ?_) (a' := ?_) #[true, true, true, true, true, true, true, true, true, true, true, true, true] rfl rfl (any_of HT_.out (by kernel_rfl)) (fun _ _ _ h => h) (Or.inl ⟨by rfl, ?_⟩) ?_ ?_
                        rotate_left
                        · intro w'
                          go_simp
                          with_reducible rfl
                        rotate_left
                        · simp only [Act.put, List.setIfInBounds_toArray, List.set_cons_zero, List.set_cons_succ, i64_w, i32_w]
                          rfl
                        refine done_ (done_of HT_.out (by kernel_rfl)) ?_
                        have hcz29_0 : w28.cell? ⟨gb122, 0, none⟩ = some (.slice A121_0 ((rd_T96 x14_1 x16_1).f0).length c121_0) := (blk_cell BK122.out 0).trans rfl
                        have hcz29_1 : w28.cell? ⟨gb122, 1, none⟩ = some (.int .i64 ((rd_T96 x14_1 x16_1).f1)) := (blk_cell BK122.out 1).trans rfl
                        have hfz29_0 := blk_frozen BK122.out 0
                        have hfz29_1 := blk_frozen BK122.out 1
                        try go_wp2_with (first | ((with_reducible refine gate_builtin (b := .append) (xs := #[.tmp 49, .tmp 51]) rfl ?_); (try (refine gate_guard (by rfl) ?_; dsimp only)); at_builtin; refine Kd.N_append k96 (w0 := w) w.heap.size rfl (.tmp 49) (.tmp 51) 26 96 (.agg #[(.slice none 0 0), (.int .i64 0)]) 32 rfl Try.underlying26 info96 rfl (by decide) (by omega) (.slice (some ad123) x4_1.length co26) x4_1 (⟨(rd_T96 x14_1 x16_1).f0, (rd_T96 x14_1 x16_1).f1⟩ : S96) [.slice A121_0 ((rd_T96 x14_1 x16_1).f0).length c121_0, .int .i64 ((rd_T96 x14_1 x16_1).f1)] (fun k_ => (P0_ k_ ∨ w.heap.size ≤ k_) ∧ k_ ≠ gb122) (fun k_ => ((fun k_ => (P0_ k_ ∨ w.heap.size ≤ k_) ∧ k_ ≠ gb122)) k_ ∧ some k_ ≠ (.slice (some ad123) x4_1.length co26 : Value).ownBlock) rfl rfl ?aP (fun _ hk => hk) ?aF ?aO ?aB ?aS ?aL ?_; (case aP => first | exact (k96_mkF _ _ (⟨(rd_T96 x14_1 x16_1).f0, (rd_T96 x14_1 x16_1).f1⟩ : S96) (Kd.V_reads' (Kd.V_mono (ok' := (fun k_ => ((fun k_ => (P0_ k_ ∨ w.heap.size ≤ k_) ∧ k_ ≠ gb122)) k_ ∧ some k_ ≠ (.slice (some ad123) x4_1.length co26 : Value).ownBlock)) (HL121_0.out) (fun k_ hk => ⟨⟨hk.1, hk.2.2⟩, hk.2.1⟩))).2.1 (Kd.V_F (Kd.V_mono (ok' := (fun k_ => ((fun k_ => (P0_ k_ ∨ w.heap.size ≤ k_) ∧ k_ ≠ gb122)) k_ ∧ some k_ ≠ (.slice (some ad123) x4_1.length co26 : Value).ownBlock)) (HL121_0.out) (fun k_ hk => ⟨⟨hk.1, hk.2.2⟩, hk.2.1⟩)))) | (have h_ := Kd.V_drewN (Kd.V_mono (ok' := (fun k_ => ((fun k_ => (P0_ k_ ∨ w.heap.size ≤ k_) ∧ k_ ≠ gb122)) k_ ∧ some k_ ≠ (.slice (some ad123) x4_1.length co26 : Value).ownBlock)) (HL121_0.out) (fun k_ hk => ⟨⟨hk.1, hk.2.2⟩, hk.2.1⟩)) nd; exact (k96_mkF _ _ (⟨(rd_T96 x14_1 x16_1).f0, (rd_T96 x14_1 x16_1).f1⟩ : S96) (Kd.V_reads' h_).2.1 (Kd.V_F h_)))); (case aB => exact (by repeat (first | (with_reducible first | exact HB.out | apply below_alloc | apply pw_below_drewN | apply below_drew1 | refine below_set ?_ GE122.out) | exact HB.out))); (case aF => exact (fun k_ hk => ⟨(.inr (Nat.le_trans (below_size (by repeat (first | (with_reducible first | exact HB.out | apply below_alloc | apply pw_below_drewN | apply below_drew1 | refine below_set ?_ GE122.out) | exact HB.out))) hk)), Kd.freshB (g := gb122) (o := .cells #[.slice A121_0 ((rd_T96 x14_1 x16_1).f0).length c121_0, .int .i64 ((rd_T96 x14_1 x16_1).f1)] 96 (0, 0)) (by (with_reducible repeat (first | refine blk_drewN ?_ _ | refine blk_drew ?_ | refine blk_alloc ?_ _)); exact BK122.out) k_ hk⟩)); (case aO => exact (by (with_reducible repeat (first | apply Kd.N_alloc | apply Kd.N_drewN | apply Kd.N_drew)); exact HO_4.out)); (case aS => exact (below_size (by repeat (first | (with_reducible first | exact HB.out | apply below_alloc | apply pw_below_drewN | apply below_drew1 | refine below_set ?_ GE122.out) | exact HB.out)))); (case aL => have := LMc23.out; omega); intro v128 w30 ho hb hg hat; rw [← Ny127.out] at ho; have n0_ := Aside0.mk (Kd.V_afterv (ok := (fun k_ => (P0_ k_ ∨ w.heap.size ≤ k_) ∧ k_ ≠ gb122)) (by (with_reducible repeat (first | apply Kd.V_alloc | apply Kd.V_drewN | apply Kd.V_drew)); exact Kd.V_mono HO_14.out (fun _ hk => ⟨⟨hk.1, hk.2.2⟩, hk.2.1⟩)) hg hat); have n1_ := Aside0.mk (Kd.V_afterv (ok := (fun k_ => (P0_ k_ ∨ w.heap.size ≤ k_) ∧ k_ ≠ gb122)) (by (with_reducible repeat (first | apply Kd.V_alloc | apply Kd.V_drewN | apply Kd.V_drew)); exact Kd.V_mono HL121_0.out (fun _ hk => ⟨⟨hk.1, hk.2.2⟩, hk.2.1⟩)) hg hat); have n2_ := Aside0.mk (blk_grown (g := gb122) (o := .cells #[.slice A121_0 ((rd_T96 x14_1 x16_1).f0).length c121_0, .int .i64 ((rd_T96 x14_1 x16_1).f1)] 96 (0, 0)) (by (with_reducible repeat (first | refine blk_drewN ?_ _ | refine blk_drew ?_ | refine blk_alloc ?_ _)); exact BK122.out) hg (Kd.N_away HO_4.out (fun _ hk => hk.2))); have n3_ := Aside0.mk (Kd.V_afterv (ok := (fun k_ => (P0_ k_ ∨ w.heap.size ≤ k_) ∧ k_ ≠ gb122)) (by (with_reducible repeat (first | apply Kd.V_alloc | apply Kd.V_drewN | apply Kd.V_drew)); exact HL123_0.out) hg hat); have n4_ := Aside0.mk (hb); have n5_ := Aside0.mk (ho); clear HO_14; clear HL121_0; clear BK122; clear HL123_0; clear HB; clear HO_4; have HO_14 := n0_; have HL121_0 := n1_; have BK122 := n2_; have HL123_0 := n3_; have HB := n4_; have HO129 := n5_; clear n0_ n1_ n2_ n3_ n4_ n5_; clear ho hb hg hat))
                        (try simp only [← hl14_1])
                        go_roundg k1
                        case measure => have := HK1.out; omega
                        case rel => exact ⟨(y127), (x14_1), (wrap64 (x16_1 + 1)), (by first | rfl | (simp; done) | (simp [*]; done)), H', ⟨by have := HK1.out; omega⟩, ⟨by (try simp only [hl14_1]); (with_reducible repeat (first | apply Kd.N_alloc | apply Kd.N_drewN | apply Kd.N_drew)); exact Kd.N_mono HO129.out (fun _ hk => hk.1)⟩, ⟨by (try simp only [hl14_1]); (with_reducible repeat (first | apply Kd.V_alloc | apply Kd.V_drewN | apply Kd.V_drew)); exact Kd.V_mono HO_14.out (fun _ hk => ⟨hk.1.1, hk.2⟩)⟩, ⟨by repeat (first | (with_reducible first | exact HB.out | apply below_alloc | apply pw_below_drewN | apply below_drew1 | refine below_set ?_ GE122.out) | exact HB.out)⟩⟩
                      · rw [if_neg c23] at H
                        exact absurd H (by simp)
                  · rw [if_neg c12] at H
                    exact absurd H (by simp)
                · rw [if_neg c11] at H
                  exact absurd H (by simp)
              · rw [if_neg c9] at H
                have c9b0 : decide (0 < (x4_1.length : Int)) = false := decide_eq_false c9
                try (have c9b0hl14_1 := c9b0; rw [hl14_1] at c9b0hl14_1)
                have c9b1 : decide (0 < x4_1.length) = false := decide_eq_false (by omega)
                try (have c9b1hl14_1 := c9b1; rw [hl14_1] at c9b1hl14_1)
                clear c9
                by_cases c31 : x4_1.length < 4398046511104
                · rw [if_pos c31] at H
                  have LMc31 := Aside0.mk c31
                  clear c31
                  obtain ⟨y130, hy130⟩ : ∃ y_ : List (S96), y_ = (x4_1 ++ [(⟨(rd_T96 x14_1 x16_1).f0, (rd_T96 x14_1 x16_1).f1⟩ : S96)]) := ⟨_, rfl⟩
                  replace H : (dist_tidy_rest.l0 k1 y130 x14_1 (l0.length : Int) (wrap64 (x16_1 + 1))) = some (r1, r2) := by first | (rw [hy130]; with_reducible exact H) | (have H2_ := (Option.bind_some _ _).symm.trans H; rw [hy130]; with_reducible exact H2_) | (have H2_ := (Option.bind_some _ _).symm.trans H; with_reducible exact H2_) | with_reducible exact H | (rw [hy130]; exact H) | exact H
                  have Ny130 := Aside0.mk hy130
                  clear hy130
                  have H' := Aside0.mk H
                  clear H
                  have p121 : 0 ≤ (x16_1 : Int) := of_decide_eq_true (by first | (with_reducible assumption) | assumption)
                  have q121 : x16_1 < (x14_1.length : Int) := of_decide_eq_true (by first | (with_reducible assumption) | assumption)
                  obtain ⟨ad121, A121_0, c121_0, e121, hx121_0, hx121_1, hl121_0, hi121_0⟩ := at_T96 (Kd.V_reads' HO_14.out).2.2 x16_1 p121 q121
                  cases e121
                  obtain ⟨ce121, hce121, hMe121, hcc121⟩ := Kd.V_get HO_14.out z96 x16_1 p121 (by first | exact q121 | exact of_decide_eq_true (by first | (with_reducible assumption) | assumption) | (have e_ := (Kd.V_reads' HO_14.out).1; omega))
                  obtain ⟨ua121_0, uc121_0, rfl, ul121_0, ge121_0⟩ := k96_openF hMe121
                  have hv121_0 := hcc121 0 _ rfl
                  rw [Nat.add_zero] at hv121_0
                  replace hv121_0 := Option.some.inj (hv121_0.symm.trans hx121_0)
                  injection hv121_0 with hva_ hvn_ hvc_
                  rw [hva_] at ge121_0
                  rw [hvc_] at ul121_0
                  have HL121_0 := Aside0.mk (show Kd.V (Kd.int .i64) 3 _ w.heap.size _ _ ((rd_T96 x14_1 x16_1).f0) from Kd.V_mk ul121_0 ge121_0)
                  clear hva_ hvn_ hvc_ ge121_0 ul121_0
                  clear hcc121 hce121
                  have HR121_0 := Aside0.mk hi121_0
                  have HC121_0 := Aside0.mk hl121_0
                  clear hi121_0 hl121_0
                  replace p121 := eq_true p121
                  replace q121 := eq_true q121
                  try go_wp2_with (first | ((with_reducible refine gate_dst (N := 6) rfl ?_); (try (refine gate_guard (by rfl) ?_; dsimp only)); refine box_event ?hg (N := 6) ?hd (cs := #[.slice none 0 0, .int .i64 0]) (t := 96) ?hr ?_; (case hd => rfl); (case hg => rfl); (case hr => first | (go_simp; done) | (go_simp; rfl)); intro gb122 hg w32 hbox hb; have n0_ := Aside0.mk (Kd.N_below (Kd.N_elderB (by (with_reducible repeat (first | apply Kd.N_alloc | apply Kd.N_drewN | apply Kd.N_drew)); exact HO_4.out) gb122 (Nat.le_of_eq hg.symm)) hb); have n1_ := Aside0.mk (Kd.V_below (Kd.V_elderB (by (with_reducible repeat (first | apply Kd.V_alloc | apply Kd.V_drewN | apply Kd.V_drew)); exact HO_14.out) gb122 (Nat.le_of_eq hg.symm)) hb); have n2_ := Aside0.mk (Kd.V_below (Kd.V_elderB (by (with_reducible repeat (first | apply Kd.V_alloc | apply Kd.V_drewN | apply Kd.V_drew)); exact HL121_0.out) gb122 (Nat.le_of_eq hg.symm)) hb); have n3_ := Aside0.mk (Kd.C_below (by repeat (first | (with_reducible exact HR121_0.out) | (with_reducible refine Kd.C_alloc ?_ _) | (with_reducible refine Kd.C_drewN ?_ _) | (with_reducible refine Kd.C_drew ?_) | exact HR121_0.out)) hb); have n4_ := Aside0.mk (below_step (by repeat (first | (with_reducible first | exact HB.out | apply below_alloc | apply pw_below_drewN | apply below_drew1) | exact HB.out)) hb); have n5_ := Aside0.mk (hbox); have n6_ := Aside0.mk ((by rw [hg]; exact (below_size (by repeat (first | (with_reducible first | exact HB.out | apply below_alloc | apply pw_below_drewN | apply below_drew1) | exact HB.out))) : w.heap.size ≤ gb122)); have n7_ := Aside0.mk ((by rw [hg]; exact (below_size (by repeat (first | (with_reducible first | exact HB.out | apply below_alloc | apply pw_below_drewN | apply below_drew1) | exact HB.out))) : w.heap.size ≤ gb122)); clear HO_4; clear HO_14; clear HL121_0; clear HR121_0; clear HB; have HO_4 := n0_; have HO_14 := n1_; have HL121_0 := n2_; have HR121_0 := n3_; have HB := n4_; have BK122 := n5_; have GW122 := n6_; have GE122 := n7_; clear n0_ n1_ n2_ n3_ n4_ n5_ n6_ n7_; clear hb hbox hg; have hcz33_0 : w32.cell? ⟨gb122, 0, none⟩ = some (.slice none 0 0) := (blk_cell BK122.out 0).trans rfl; have hcz33_1 : w32.cell? ⟨gb122, 1, none⟩ = some (.int .i64 0) := (blk_cell BK122.out 1).trans rfl; have hfz33_0 := blk_frozen BK122.out 0; have hfz33_1 := blk_frozen BK122.out 1; obtain ⟨Ao34, co34, eo34⟩ := Kd.N_slice HO_4.out; subst eo34))
                  have n0_ : Aside0 (Kd.N k96 96 ((w32.setCell ⟨gb122, 0, none⟩ (.slice A121_0 ((rd_T96 x14_1 x16_1).f0).length c121_0)).setCell ⟨gb122, 1, none⟩ (.int .i64 ((rd_T96 x14_1 x16_1).f1))) w.heap.size (fun k_ => (P0_ k_ ∨ w.heap.size ≤ k_) ∧ k_ ≠ gb122) (.slice Ao34 x4_1.length co34) x4_1) := ⟨by (with_reducible repeat (first | apply Kd.N_alloc | apply Kd.N_drewN | apply Kd.N_drew)); exact Kd.N_mono (Kd.N_far (p := ⟨gb122, 1, none⟩) (Kd.N_far (p := ⟨gb122, 0, none⟩) (Kd.N_mono HO_4.out (fun k_ hk => (⟨hk, hk.2⟩ : _ ∧ k_ ≠ gb122))) (fun _ hk => hk.2) (.slice A121_0 ((rd_T96 x14_1 x16_1).f0).length c121_0)) (fun _ hk => hk.2) (.int .i64 ((rd_T96 x14_1 x16_1).f1))) (fun _ hk => ⟨hk.1.1, hk.1.2⟩)⟩
                  have n1_ : Aside0 (Kd.V k96 96 ((w32.setCell ⟨gb122, 0, none⟩ (.slice A121_0 ((rd_T96 x14_1 x16_1).f0).length c121_0)).setCell ⟨gb122, 1, none⟩ (.int .i64 ((rd_T96 x14_1 x16_1).f1))) w.heap.size (fun k_ => (P0_ k_ ∨ w.heap.size ≤ k_) ∧ some k_ ≠ (.slice Ao34 x4_1.length co34 : Value).ownBlock ∧ k_ ≠ gb122) (.slice (some ad121) x14_1.length c0) x14_1) := ⟨by (with_reducible repeat (first | apply Kd.V_alloc | apply Kd.V_drewN | apply Kd.V_drew)); exact Kd.V_mono (Kd.V_far (p := ⟨gb122, 1, none⟩) (Kd.V_far (p := ⟨gb122, 0, none⟩) (Kd.V_mono HO_14.out (fun k_ hk => (⟨hk, hk.2⟩ : _ ∧ k_ ≠ gb122))) (fun _ hk => hk.2) (.slice A121_0 ((rd_T96 x14_1 x16_1).f0).length c121_0)) (fun _ hk => hk.2) (.int .i64 ((rd_T96 x14_1 x16_1).f1))) (fun _ hk => ⟨hk.1.1.1, ⟨hk.1.1.2, hk.1.2⟩⟩)⟩
                  have n2_ : Aside0 (Kd.V (Kd.int .i64) 3 ((w32.setCell ⟨gb122, 0, none⟩ (.slice A121_0 ((rd_T96 x14_1 x16_1).f0).length c121_0)).setCell ⟨gb122, 1, none⟩ (.int .i64 ((rd_T96 x14_1 x16_1).f1))) w.heap.size (fun k_ => (P0_ k_ ∨ w.heap.size ≤ k_) ∧ some k_ ≠ (.slice Ao34 x4_1.length co34 : Value).ownBlock ∧ k_ ≠ gb122) (.slice A121_0 ((rd_T96 x14_1 x16_1).f0).length c121_0) ((rd_T96 x14_1 x16_1).f0)) := ⟨by (with_reducible repeat (first | apply Kd.V_alloc | apply Kd.V_drewN | apply Kd.V_drew)); exact Kd.V_mono (Kd.V_far (p := ⟨gb122, 1, none⟩) (Kd.V_far (p := ⟨gb122, 0, none⟩) (Kd.V_mono HL121_0.out (fun k_ hk => (⟨hk, hk.2⟩ : _ ∧ k_ ≠ gb122))) (fun _ hk => hk.2) (.slice A121_0 ((rd_T96 x14_1 x16_1).f0).length c121_0)) (fun _ hk => hk.2) (.int .i64 ((rd_T96 x14_1 x16_1).f1))) (fun _ hk => ⟨hk.1.1.1, ⟨hk.1.1.2, hk.1.2⟩⟩)⟩
                  have n3_ : Aside0 (((w32.setCell ⟨gb122, 0, none⟩ (.slice A121_0 ((rd_T96 x14_1 x16_1).f0).length c121_0)).setCell ⟨gb122, 1, none⟩ (.int .i64 ((rd_T96 x14_1 x16_1).f1))).heap[gb122]? = some (.cells #[.slice A121_0 ((rd_T96 x14_1 x16_1).f0).length c121_0, .int .i64 ((rd_T96 x14_1 x16_1).f1)] 96 (0, 0))) := ⟨by (with_reducible repeat (first | refine blk_drewN ?_ _ | refine blk_drew ?_ | refine blk_alloc ?_ _)); refine blk_put (cs := #[.slice A121_0 ((rd_T96 x14_1 x16_1).f0).length c121_0, .int .i64 0]) ?_ 1 _ rfl; (with_reducible repeat (first | refine blk_drewN ?_ _ | refine blk_drew ?_ | refine blk_alloc ?_ _)); refine blk_put (cs := #[.slice none 0 0, .int .i64 0]) ?_ 0 _ rfl; (with_reducible repeat (first | refine blk_drewN ?_ _ | refine blk_drew ?_ | refine blk_alloc ?_ _)); exact BK122.out⟩
                  have n4_ : Aside0 (Below w.heap.size w ((w32.setCell ⟨gb122, 0, none⟩ (.slice A121_0 ((rd_T96 x14_1 x16_1).f0).length c121_0)).setCell ⟨gb122, 1, none⟩ (.int .i64 ((rd_T96 x14_1 x16_1).f1)))) := ⟨by repeat (first | (with_reducible first | exact HB.out | apply below_alloc | apply pw_below_drewN | apply below_drew1 | refine below_set ?_ GE122.out) | exact HB.out)⟩
                  (try clear HO_4)
                  (try clear HO_14)
                  (try clear HL121_0)
                  (try clear BK122)
                  (try clear HB)
                  generalize ((w32.setCell ⟨gb122, 0, none⟩ (.slice A121_0 ((rd_T96 x14_1 x16_1).f0).length c121_0)).setCell ⟨gb122, 1, none⟩ (.int .i64 ((rd_T96 x14_1 x16_1).f1))) = w35 at n0_ n1_ n2_ n3_ n4_ ⊢
                  have HO_4 := n0_
                  have HO_14 := n1_
                  have HL121_0 := n2_
                  have BK122 := n3_
                  have HB := n4_
                  clear n0_ n1_ n2_ n3_ n4_
                  have n0_ := Aside0.mk (Kd.N_drew HO_4.out)
                  have n1_ := Aside0.mk (Kd.V_drew HO_14.out)
                  have n2_ := Aside0.mk (Kd.V_drew HL121_0.out)
                  have n3_ := Aside0.mk (blk_drew BK122.out)
                  have n4_ := Aside0.mk (below_drew1 HB.out)
                  clear HO_4
                  clear HO_14
                  clear HL121_0
                  clear BK122
                  clear HB
                  have HO_4 := n0_
                  have HO_14 := n1_
                  have HL121_0 := n2_
                  have BK122 := n3_
                  have HB := n4_
                  clear n0_ n1_ n2_ n3_ n4_
                  refine start_ (n := 13) (S := fun w' => True) (ds := []) #[false, false, false, false, false, false, false, false, false, false, false, false, false] (by kernel_rfl) rfl rfl trivial (fun hHeld => ?_); refine with_tabW dist_tidy_rest.tab8 dist_tidy_rest.bits8 (fun HT_ HW_ => ?_)
                  generalize w35.drew = w36 at HO_4 HO_14 HL121_0 BK122 HB hHeld ⊢
                  refine pure_ (i := 0) (N := some 25) (v := ?_) (a' := ?_) #[true, false, false, false, false, false, false, false, false, false, false, false, false] rfl rfl (any_of HT_.out (by kernel_rfl)) (fun _ _ _ h => h) (Or.inl ⟨by rfl, ?_⟩) ?_ ?_
                  rotate_left
                  · intro w'
                    go_simp
                    with_reducible rfl
                  rotate_left
                  · simp only [Act.put, List.setIfInBounds_toArray, List.set_cons_zero, List.set_cons_succ, i64_w, i32_w]
                    rfl
                  refine pure_ (i := 1) (N := some 26) (v := ?_) (a' := ?_) #[true, true, false, false, false, false, false, false, false, false, false, false, false] rfl rfl (any_of HT_.out (by kernel_rfl)) (fun _ _ _ h => h) (Or.inl ⟨by rfl, ?_⟩) ?_ ?_
                  rotate_left
                  · intro w'
                    go_simp
                    with_reducible rfl
                  rotate_left
                  · simp only [Act.put, List.setIfInBounds_toArray, List.set_cons_zero, List.set_cons_succ, i64_w, i32_w]
                    rfl
                  refine pure_ (i := 2) (N := some 27) (v := ?_) (a' := ?_) #[true, true, true, false, false, false, false, false, false, false, false, false, false] rfl rfl (any_of HT_.out (by kernel_rfl)) (fun _ _ _ h => h) (Or.inl ⟨by rfl, ?_⟩) ?_ ?_
                  rotate_left
                  · intro w'
                    go_simp
                    with_reducible rfl
                  rotate_left
                  · simp only [Act.put, List.setIfInBounds_toArray, List.set_cons_zero, List.set_cons_succ, i64_w, i32_w]
                    rfl
                  refine pure_ (i := 3) (N := some 28) (v := undef) (a' := ?_) #[true, true, true, true, false, false, false, false, false, false, false, false, false] rfl rfl (any_of HT_.out (by kernel_rfl)) (fun _ _ _ h => h) (Or.inr ⟨by rfl, rfl⟩) ?_ ?_
                  rotate_left
                  · simp only [Act.put, List.setIfInBounds_toArray, List.set_cons_zero, List.set_cons_succ, i64_w, i32_w]
                    rfl
                  refine pure_ (i := 4) (N := some 29) (v := undef) (a' := ?_) #[true, true, true, true, true, false, false, false, false, false, false, false, false] rfl rfl (any_of HT_.out (by kernel_rfl)) (fun _ _ _ h => h) (Or.inr ⟨by rfl, rfl⟩) ?_ ?_
                  rotate_left
                  · simp only [Act.put, List.setIfInBounds_toArray, List.set_cons_zero, List.set_cons_succ, i64_w, i32_w]
                    rfl
                  refine pure_ (i := 5) (N := some 30) (v := undef) (a' := ?_) #[true, true, true, true, true, true, false, false, false, false, false, false, false] rfl rfl (any_of HT_.out (by kernel_rfl)) (fun _ _ _ h => h) (Or.inr ⟨by rfl, rfl⟩) ?_ ?_
                  rotate_left
                  · simp only [Act.put, List.setIfInBounds_toArray, List.set_cons_zero, List.set_cons_succ, i64_w, i32_w]
                    rfl
                  refine pure_ (i := 6) (N := some 31) (v := undef) (a' := ?_) #[true, true, true, true, true, true, true, false, false, false, false, false, false] rfl rfl (any_of HT_.out (by kernel_rfl)) (fun _ _ _ h => h) (Or.inr ⟨by rfl, rfl⟩) ?_ ?_
                  rotate_left
                  · simp only [Act.put, List.setIfInBounds_toArray, List.set_cons_zero, List.set_cons_succ, i64_w, i32_w]
                    rfl
                  refine pure_ (i := 7) (N := some 32) (v := undef) (a' := ?_) #[true, true, true, true, true, true, true, true, false, false, false, false, false] rfl rfl (any_of HT_.out (by kernel_rfl)) (fun _ _ _ h => h) (Or.inr ⟨by rfl, rfl⟩) ?_ ?_
                  rotate_left
                  · simp only [Act.put, List.setIfInBounds_toArray, List.set_cons_zero, List.set_cons_succ, i64_w, i32_w]
                    rfl
                  refine pure_ (i := 8) (N := some 33) (v := undef) (a' := ?_) #[true, true, true, true, true, true, true, true, true, false, false, false, false] rfl rfl (any_of HT_.out (by kernel_rfl)) (fun _ _ _ h => h) (Or.inr ⟨by rfl, rfl⟩) ?_ ?_
                  rotate_left
                  · simp only [Act.put, List.setIfInBounds_toArray, List.set_cons_zero, List.set_cons_succ, i64_w, i32_w]
                    rfl
                  refine pure_ (i := 9) (N := some 34) (v := undef) (a' := ?_) #[true, true, true, true, true, true, true, true, true, true, false, false, false] rfl rfl (any_of HT_.out (by kernel_rfl)) (fun _ _ _ h => h) (Or.inr ⟨by rfl, rfl⟩) ?_ ?_
                  rotate_left
                  · simp only [Act.put, List.setIfInBounds_toArray, List.set_cons_zero, List.set_cons_succ, i64_w, i32_w]
                    rfl
                  refine pure_ (i := 10) (N := some 35) (v := undef) (a' := ?_) #[true, true, true, true, true, true, true, true, true, true, true, false, false] rfl rfl (any_of HT_.out (by kernel_rfl)) (fun _ _ _ h => h) (Or.inr ⟨by rfl, rfl⟩) ?_ ?_
                  rotate_left
                  · simp only [Act.put, List.setIfInBounds_toArray, List.set_cons_zero, List.set_cons_succ, i64_w, i32_w]
                    rfl
                  refine pure_ (i := 11) (N := some 36) (v := undef) (a' := ?_) #[true, true, true, true, true, true, true, true, true, true, true, true, false] rfl rfl (any_of HT_.out (by kernel_rfl)) (fun _ _ _ h => h) (Or.inr ⟨by rfl, rfl⟩) ?_ ?_
                  rotate_left
                  · simp only [Act.put, List.setIfInBounds_toArray, List.set_cons_zero, List.set_cons_succ, i64_w, i32_w]
                    rfl
                  refine pure_ (i := 12) (N := some 37) (v := ?_) (a' := ?_) #[true, true, true, true, true, true, true, true, true, true, true, true, true] rfl rfl (any_of HT_.out (by kernel_rfl)) (fun _ _ _ h => h) (Or.inl ⟨by rfl, ?_⟩) ?_ ?_
                  rotate_left
                  · intro w'
                    go_simp
                    with_reducible rfl
                  rotate_left
                  · simp only [Act.put, List.setIfInBounds_toArray, List.set_cons_zero, List.set_cons_succ, i64_w, i32_w]
                    rfl
                  refine done_ (done_of HT_.out (by kernel_rfl)) ?_
                  have hcz37_0 : w36.cell? ⟨gb122, 0, none⟩ = some (.slice A121_0 ((rd_T96 x14_1 x16_1).f0).length c121_0) := (blk_cell BK122.out 0).trans rfl
                  have hcz37_1 : w36.cell? ⟨gb122, 1, none⟩ = some (.int .i64 ((rd_T96 x14_1 x16_1).f1)) := (blk_cell BK122.out 1).trans rfl
                  have hfz37_0 := blk_frozen BK122.out 0
                  have hfz37_1 := blk_frozen BK122.out 1
                  try go_wp2_with (first | ((with_reducible refine gate_builtin (b := .append) (xs := #[.tmp 49, .tmp 51]) rfl ?_); (try (refine gate_guard (by rfl) ?_; dsimp only)); at_builtin; refine Kd.N_append k96 (w0 := w) w.heap.size rfl (.tmp 49) (.tmp 51) 26 96 (.agg #[(.slice none 0 0), (.int .i64 0)]) 32 rfl Try.underlying26 info96 rfl (by decide) (by omega) (.slice Ao34 x4_1.length co34) x4_1 (⟨(rd_T96 x14_1 x16_1).f0, (rd_T96 x14_1 x16_1).f1⟩ : S96) [.slice A121_0 ((rd_T96 x14_1 x16_1).f0).length c121_0, .int .i64 ((rd_T96 x14_1 x16_1).f1)] (fun k_ => (P0_ k_ ∨ w.heap.size ≤ k_) ∧ k_ ≠ gb122) (fun k_ => ((fun k_ => (P0_ k_ ∨ w.heap.size ≤ k_) ∧ k_ ≠ gb122)) k_ ∧ some k_ ≠ (.slice Ao34 x4_1.length co34 : Value).ownBlock) rfl rfl ?aP (fun _ hk => hk) ?aF ?aO ?aB ?aS ?aL ?_; (case aP => first | exact (k96_mkF _ _ (⟨(rd_T96 x14_1 x16_1).f0, (rd_T96 x14_1 x16_1).f1⟩ : S96) (Kd.V_reads' (Kd.V_mono (ok' := (fun k_ => ((fun k_ => (P0_ k_ ∨ w.heap.size ≤ k_) ∧ k_ ≠ gb122)) k_ ∧ some k_ ≠ (.slice Ao34 x4_1.length co34 : Value).ownBlock)) (HL121_0.out) (fun k_ hk => ⟨⟨hk.1, hk.2.2⟩, hk.2.1⟩))).2.1 (Kd.V_F (Kd.V_mono (ok' := (fun k_ => ((fun k_ => (P0_ k_ ∨ w.heap.size ≤ k_) ∧ k_ ≠ gb122)) k_ ∧ some k_ ≠ (.slice Ao34 x4_1.length co34 : Value).ownBlock)) (HL121_0.out) (fun k_ hk => ⟨⟨hk.1, hk.2.2⟩, hk.2.1⟩)))) | (have h_ := Kd.V_drewN (Kd.V_mono (ok' := (fun k_ => ((fun k_ => (P0_ k_ ∨ w.heap.size ≤ k_) ∧ k_ ≠ gb122)) k_ ∧ some k_ ≠ (.slice (some ad123) x4_1.length co26 : Value).ownBlock)) (HL121_0.out) (fun k_ hk => ⟨⟨hk.1, hk.2.2⟩, hk.2.1⟩)) nd; exact (k96_mkF _ _ (⟨(rd_T96 x14_1 x16_1).f0, (rd_T96 x14_1 x16_1).f1⟩ : S96) (Kd.V_reads' h_).2.1 (Kd.V_F h_)))); (case aB => exact (by repeat (first | (with_reducible first | exact HB.out | apply below_alloc | apply pw_below_drewN | apply below_drew1 | refine below_set ?_ GE122.out) | exact HB.out))); (case aF => exact (fun k_ hk => ⟨(.inr (Nat.le_trans (below_size (by repeat (first | (with_reducible first | exact HB.out | apply below_alloc | apply pw_below_drewN | apply below_drew1 | refine below_set ?_ GE122.out) | exact HB.out))) hk)), Kd.freshB (g := gb122) (o := .cells #[.slice A121_0 ((rd_T96 x14_1 x16_1).f0).length c121_0, .int .i64 ((rd_T96 x14_1 x16_1).f1)] 96 (0, 0)) (by (with_reducible repeat (first | refine blk_drewN ?_ _ | refine blk_drew ?_ | refine blk_alloc ?_ _)); exact BK122.out) k_ hk⟩)); (case aO => exact (by (with_reducible repeat (first | apply Kd.N_alloc | apply Kd.N_drewN | apply Kd.N_drew)); exact HO_4.out)); (case aS => exact (below_size (by repeat (first | (with_reducible first | exact HB.out | apply below_alloc | apply pw_below_drewN | apply below_drew1 | refine below_set ?_ GE122.out) | exact HB.out)))); (case aL => have := LMc31.out; omega); intro v131 w38 ho hb hg hat; rw [← Ny130.out] at ho; have n0_ := Aside0.mk (Kd.V_afterv (ok := (fun k_ => (P0_ k_ ∨ w.heap.size ≤ k_) ∧ k_ ≠ gb122)) (by (with_reducible repeat (first | apply Kd.V_alloc | apply Kd.V_drewN | apply Kd.V_drew)); exact Kd.V_mono HO_14.out (fun _ hk => ⟨⟨hk.1, hk.2.2⟩, hk.2.1⟩)) hg hat); have n1_ := Aside0.mk (Kd.V_afterv (ok := (fun k_ => (P0_ k_ ∨ w.heap.size ≤ k_) ∧ k_ ≠ gb122)) (by (with_reducible repeat (first | apply Kd.V_alloc | apply Kd.V_drewN | apply Kd.V_drew)); exact Kd.V_mono HL121_0.out (fun _ hk => ⟨⟨hk.1, hk.2.2⟩, hk.2.1⟩)) hg hat); have n2_ := Aside0.mk (blk_grown (g := gb122) (o := .cells #[.slice A121_0 ((rd_T96 x14_1 x16_1).f0).length c121_0, .int .i64 ((rd_T96 x14_1 x16_1).f1)] 96 (0, 0)) (by (with_reducible repeat (first | refine blk_drewN ?_ _ | refine blk_drew ?_ | refine blk_alloc ?_ _)); exact BK122.out) hg (Kd.N_away HO_4.out (fun _ hk => hk.2))); have n3_ := Aside0.mk (hb); have n4_ := Aside0.mk (ho); clear HO_14; clear HL121_0; clear BK122; clear HB; clear HO_4; have HO_14 := n0_; have HL121_0 := n1_; have BK122 := n2_; have HB := n3_; have HO132 := n4_; clear n0_ n1_ n2_ n3_ n4_; clear ho hb hg hat))
                  (try simp only [← hl14_1])
                  go_roundg k1
                  case measure => have := HK1.out; omega
                  case rel => exact ⟨(y130), (x14_1), (wrap64 (x16_1 + 1)), (by first | rfl | (simp; done) | (simp [*]; done)), H', ⟨by have := HK1.out; omega⟩, ⟨by (try simp only [hl14_1]); (with_reducible repeat (first | apply Kd.N_alloc | apply Kd.N_drewN | apply Kd.N_drew)); exact Kd.N_mono HO132.out (fun _ hk => hk.1)⟩, ⟨by (try simp only [hl14_1]); (with_reducible repeat (first | apply Kd.V_alloc | apply Kd.V_drewN | apply Kd.V_drew)); exact Kd.V_mono HO_14.out (fun _ hk => ⟨hk.1.1, hk.2⟩)⟩, ⟨by repeat (first | (with_reducible first | exact HB.out | apply below_alloc | apply pw_below_drewN | apply below_drew1 | refine below_set ?_ GE122.out) | exact HB.out)⟩⟩
                · rw [if_neg c31] at H
                  exact absurd H (by simp)
          · rw [if_neg c4] at H
            exact absurd H (by simp)
        · rw [if_neg c3] at H
          exact absurd H (by simp)
      · rw [if_neg c2] at H
        have c2b0 : decide (x16_1 < (l0.length : Int)) = false := decide_eq_false c2
        try (have c2b0hl14_1 := c2b0; rw [hl14_1] at c2b0hl14_1)
        clear c2
        by_cases c39 : (x4_1.length : Int) = 0
        · rw [if_pos c39] at H
          have c39b0 : ((x4_1.length : Int) == 0) = true := beq_iff_eq.mpr c39
          have c39b1 : ((x4_1.length : Int) != 0) = false := bne_eq_false_iff_eq.mpr c39
          clear c39
          simp only [Option.some.injEq, Prod.mk.injEq] at H
          obtain ⟨rfl, rfl⟩ := H
          obtain ⟨Ao40, co40, eo40⟩ := Kd.N_slice HO_4.out
          subst eo40
          go_wp2
          go_ret2
          exact ⟨_, HG_.out, _, by first | rfl | (simp [errW_none, errW_some] <;> rfl) | (simp [*, errW_none, errW_some] <;> rfl), by first | exact Kd.S_nil _ _ _ _ _ | exact Kd.N_nil _ _ _ _ _ | exact Kd.V_nil _ _ _ _ _ | exact Kd.Q_nil _ _ _ _ _ | exact Kd.R_nil _ _ _ _ _, by repeat (first | (with_reducible first | exact HB.out | apply below_alloc | apply pw_below_drewN | apply below_drew1) | exact HB.out)⟩
        · rw [if_neg c39] at H
          have c39b0 : ((x4_1.length : Int) == 0) = false := beq_eq_false_iff_ne.mpr c39
          have c39b1 : ((x4_1.length : Int) != 0) = true := bne_iff_ne.mpr c39
          have c39b2 : ¬ (x4_1 = []) := fun h_ => c39 (by rw [h_]; rfl)
          have H' := Aside0.mk H
          clear H
          obtain ⟨Ao41, co41, eo41⟩ := Kd.N_slice HO_4.out
          subst eo41
          go_wp2
          go_loopg [8, 59] k1 (fun kq v8 v59 w' => ∃ (x8_2 : Int) (x59_2 : Int), v8 = .int .i64 x8_2 ∧ v59 = .int .i64 x59_2 ∧ Aside0 (dist_tidy_rest.l1 kq x4_1 x8_2 x4_1 (x4_1.length : Int) x59_2 = some (r1, r2)) ∧ Aside0 (kq ≤ k1) ∧ Aside0 (Kd.N k96 96 w' w.heap.size (fun k_ => (P0_ k_ ∨ w.heap.size ≤ k_)) (.slice Ao41 x4_1.length co41) x4_1) ∧ Aside0 (Kd.N k96 96 w' w.heap.size (fun k_ => (P0_ k_ ∨ w.heap.size ≤ k_)) (.slice Ao41 x4_1.length co41) x4_1) ∧ Aside0 (Below w.heap.size w w'))
          case atStart => exact ⟨(0), (0), (by first | rfl | (simp; done) | (simp [*]; done)), (by first | rfl | (simp; done) | (simp [*]; done)), H', ⟨Nat.le_refl _⟩, ⟨by (try simp only [hl14_1]); (with_reducible repeat (first | apply Kd.N_alloc | apply Kd.N_drewN | apply Kd.N_drew)); exact HO_4.out⟩, ⟨by (try simp only [hl14_1]); (with_reducible repeat (first | apply Kd.N_alloc | apply Kd.N_drewN | apply Kd.N_drew)); exact HO_4.out⟩, ⟨by repeat (first | (with_reducible first | exact HB.out | apply below_alloc | apply pw_below_drewN | apply below_drew1) | exact HB.out)⟩⟩
          case round =>
            clear H'
            try clear c1
            try clear p1
            try clear q1
            try clear hx1
            try clear hf1
            try clear c2
            try clear c2b0
            try clear p2
            try clear c3
            try clear c4
            try clear p6
            try clear c9
            try clear c9b0
            try clear c9b1
            try clear c11
            try clear c12
            try clear p12
            try clear q12
            try clear hx12
            try clear c14
            try clear c15
            try clear p15
            try clear q15
            try clear hx15
            try clear hf15
            try clear c22
            try clear c23
            try clear c31
            try clear c39
            try clear c39b0
            try clear c39b1
            try clear c39b2
            try clear hcz25_0
            try clear hcz25_1
            try clear hcz29_0
            try clear hcz29_1
            try clear hcz33_0
            try clear hcz33_1
            try clear hcz37_0
            try clear hcz37_1
            try clear hfz25_0
            try clear hfz25_1
            try clear hfz29_0
            try clear hfz29_1
            try clear hfz33_0
            try clear hfz33_1
            try clear hfz37_0
            try clear hfz37_1
            try clear hx121_0
            try clear hx121_1
            try clear hx123_0
            try clear hx123_1
            try clear hx125_0
            try clear hx125_1
            try clear hx15_0
            try clear hx15_1
            try clear p121
            try clear p123
            try clear p125
            try clear p15
            try clear q121
            try clear q123
            try clear q125
            try clear q15
            obtain ⟨x8_2, x59_2, rfl, rfl, HA, HK2, HO_4, HO_57, HB⟩ := hrel
            cases gk with
            | zero => exact absurd HA.out (by simp [dist_tidy_rest.l1])
            | succ k2 =>
              have H := HA.out
              clear HA
              simp only [dist_tidy_rest.l1] at H
              by_cases c42 : x59_2 < (x4_1.length : Int)
              · rw [if_pos c42] at H
                have c42b0 : decide (x59_2 < (x4_1.length : Int)) = true := decide_eq_true c42
                try (have c42b0hl14_1 := c42b0; rw [hl14_1] at c42b0hl14_1)
                clear c42
                by_cases c43 : 0 ≤ x59_2
                · rw [if_pos c43] at H
                  have c43b0 : decide (0 ≤ x59_2) = true := decide_eq_true c43
                  clear c43
                  by_cases c44 : x59_2 < (x4_1.length : Int)
                  · rw [if_pos c44] at H
                    have c44b0 : decide (x59_2 < (x4_1.length : Int)) = true := decide_eq_true c44
                    try (have c44b0hl14_1 := c44b0; rw [hl14_1] at c44b0hl14_1)
                    clear c44
                    replace H := Option.bind_eq_some_iff.mp H
                    obtain ⟨t135, A450, H⟩ := H
                    replace H : (dist_tidy_rest.l1 k2 x4_1 t135 x4_1 (x4_1.length : Int) (wrap64 (x59_2 + 1))) = some (r1, r2) := H
                    have A45 := Aside0.mk A450
                    clear A450
                    have H' := Aside0.mk H
                    clear H
                    have p133 : 0 ≤ (x59_2 : Int) := of_decide_eq_true (by first | (with_reducible assumption) | assumption)
                    have q133 : x59_2 < (x4_1.length : Int) := of_decide_eq_true (by first | (with_reducible assumption) | assumption)
                    obtain ⟨ad133, A133_0, c133_0, e133, hx133_0, hx133_1, hl133_0, hi133_0⟩ := at_T96 (Kd.N_reads' HO_57.out).2.2 x59_2 p133 q133
                    cases e133
                    obtain ⟨ce133, hce133, hMe133, hcc133⟩ := Kd.N_get HO_57.out z96 x59_2 p133 (by first | exact q133 | exact of_decide_eq_true (by first | (with_reducible assumption) | assumption) | (have e_ := (Kd.N_reads' HO_57.out).1; omega))
                    obtain ⟨ua133_0, uc133_0, rfl, ul133_0, ge133_0⟩ := k96_openF hMe133
                    have hv133_0 := hcc133 0 _ rfl
                    rw [Nat.add_zero] at hv133_0
                    replace hv133_0 := Option.some.inj (hv133_0.symm.trans hx133_0)
                    injection hv133_0 with hva_ hvn_ hvc_
                    rw [hva_] at ge133_0
                    rw [hvc_] at ul133_0
                    have HL133_0 := Aside0.mk (show Kd.V (Kd.int .i64) 3 _ w.heap.size _ _ ((rd_T96 x4_1 x59_2).f0) from Kd.V_mk ul133_0 ge133_0)
                    clear hva_ hvn_ hvc_ ge133_0 ul133_0
                    clear hcc133 hce133
                    have HR133_0 := Aside0.mk hi133_0
                    have HC133_0 := Aside0.mk hl133_0
                    clear hi133_0 hl133_0
                    replace p133 := eq_true p133
                    replace q133 := eq_true q133
                    go_wp2_with (first | ((with_reducible refine gate_dst (N := 10) rfl ?_); (try (refine gate_guard (by rfl) ?_; dsimp only)); refine box_event ?hg (N := 10) ?hd (cs := #[.slice none 0 0, .int .i64 0]) (t := 96) ?hr ?_; (case hd => rfl); (case hg => rfl); (case hr => first | (go_simp; done) | (go_simp; rfl)); intro gb134 hg w46 hbox hb; have n0_ := Aside0.mk (Kd.N_below (Kd.N_elderB (by (with_reducible repeat (first | apply Kd.N_alloc | apply Kd.N_drewN | apply Kd.N_drew)); exact HO_4.out) gb134 (Nat.le_of_eq hg.symm)) hb); have n1_ := Aside0.mk (Kd.N_below (Kd.N_elderB (by (with_reducible repeat (first | apply Kd.N_alloc | apply Kd.N_drewN | apply Kd.N_drew)); exact HO_57.out) gb134 (Nat.le_of_eq hg.symm)) hb); have n2_ := Aside0.mk (Kd.V_below (Kd.V_elderB (by (with_reducible repeat (first | apply Kd.V_alloc | apply Kd.V_drewN | apply Kd.V_drew)); exact HL133_0.out) gb134 (Nat.le_of_eq hg.symm)) hb); have n3_ := Aside0.mk (Kd.C_below (by repeat (first | (with_reducible exact HR133_0.out) | (with_reducible refine Kd.C_alloc ?_ _) | (with_reducible refine Kd.C_drewN ?_ _) | (with_reducible refine Kd.C_drew ?_) | exact HR133_0.out)) hb); have n4_ := Aside0.mk (below_step (by repeat (first | (with_reducible first | exact HB.out | apply below_alloc | apply pw_below_drewN | apply below_drew1) | exact HB.out)) hb); have n5_ := Aside0.mk (hbox); have n6_ := Aside0.mk ((by rw [hg]; exact (below_size (by repeat (first | (with_reducible first | exact HB.out | apply below_alloc | apply pw_below_drewN | apply below_drew1) | exact HB.out))) : w.heap.size ≤ gb134)); have n7_ := Aside0.mk ((by rw [hg]; exact (below_size (by repeat (first | (with_reducible first | exact HB.out | apply below_alloc | apply pw_below_drewN | apply below_drew1) | exact HB.out))) : w.heap.size ≤ gb134)); clear HO_4; clear HO_57; clear HL133_0; clear HR133_0; clear HB; have HO_4 := n0_; have HO_57 := n1_; have HL133_0 := n2_; have HR133_0 := n3_; have HB := n4_; have BK134 := n5_; have GW134 := n6_; have GE134 := n7_; clear n0_ n1_ n2_ n3_ n4_ n5_ n6_ n7_; clear hb hbox hg; have hcz47_0 : w46.cell? ⟨gb134, 0, none⟩ = some (.slice none 0 0) := (blk_cell BK134.out 0).trans rfl; have hcz47_1 : w46.cell? ⟨gb134, 1, none⟩ = some (.int .i64 0) := (blk_cell BK134.out 1).trans rfl; have hfz47_0 := blk_frozen BK134.out 0; have hfz47_1 := blk_frozen BK134.out 1) | ((with_reducible refine gate_callee (f := 58) rfl ?_); refine goesL_ (some 66) rfl rfl Try.func58 (by kernel_rfl) rfl #[.int .i64 x8_2, .int .i64 ((rd_T96 x4_1 x59_2).f1)] rfl (by (try simp only [List.map_toArray, List.map_cons, List.map_nil]); first | done | rfl | (simp only [List.length_drop, List.length_take]; rfl)) ?_; (with_reducible refine (dist_gcd.calls k2 x8_2 ((rd_T96 x4_1 x59_2).f1) t135 _ A45.out).mono ?_); rintro e w' ⟨rfl, ⟨nd, rfl⟩⟩; refine ⟨_, rfl, ?_⟩))
                    go_roundg k2
                    case measure => have := HK1.out; have := HK2.out; omega
                    case rel => exact ⟨(t135), (wrap64 (x59_2 + 1)), (by first | rfl | (simp; done) | (simp [*]; done)), (by first | rfl | (simp; done) | (simp [*]; done)), H', ⟨by have := HK1.out; have := HK2.out; omega⟩, ⟨by (try simp only [hl14_1]); (with_reducible repeat (first | apply Kd.N_alloc | apply Kd.N_drewN | apply Kd.N_drew)); exact Kd.N_mono (Kd.N_far (p := ⟨gb134, 1, none⟩) (Kd.N_far (p := ⟨gb134, 0, none⟩) (Kd.N_mono HO_4.out (fun k_ hk => (⟨hk, hk.2⟩ : _ ∧ k_ ≠ gb134))) (fun _ hk => hk.2) (.slice A133_0 ((rd_T96 x4_1 x59_2).f0).length c133_0)) (fun _ hk => hk.2) (.int .i64 ((rd_T96 x4_1 x59_2).f1))) (fun _ hk => hk.1.1)⟩, ⟨by (try simp only [hl14_1]); (with_reducible repeat (first | apply Kd.N_alloc | apply Kd.N_drewN | apply Kd.N_drew)); exact Kd.N_mono (Kd.N_far (p := ⟨gb134, 1, none⟩) (Kd.N_far (p := ⟨gb134, 0, none⟩) (Kd.N_mono HO_57.out (fun k_ hk => (⟨hk, hk.2⟩ : _ ∧ k_ ≠ gb134))) (fun _ hk => hk.2) (.slice A133_0 ((rd_T96 x4_1 x59_2).f0).length c133_0)) (fun _ hk => hk.2) (.int .i64 ((rd_T96 x4_1 x59_2).f1))) (fun _ hk => hk.1.1)⟩, ⟨by repeat (first | (with_reducible first | exact HB.out | apply below_alloc | apply pw_below_drewN | apply below_drew1 | refine below_set ?_ GE134.out) | exact HB.out)⟩⟩
                  · rw [if_neg c44] at H
                    exact absurd H (by simp)
                · rw [if_neg c43] at H
                  exact absurd H (by simp)
              · rw [if_neg c42] at H
                have c42b0 : decide (x59_2 < (x4_1.length : Int)) = false := decide_eq_false c42
                try (have c42b0hl14_1 := c42b0; rw [hl14_1] at c42b0hl14_1)
                clear c42
                have HC48 := Aside0.mk H
                clear H
                go_upto_region 20 with (fail)
                go_cut [77] (fun v77 wc => ∃ (kq : Nat) (x77_47 : Bool), v77 = .bool x77_47 ∧ Aside0 (dist_tidy_rest.j2 kq x4_1 x8_2 x77_47 = some (r1, r2)) ∧ Aside0 (kq ≤ k2) ∧ Aside0 (Kd.N k96 96 wc w.heap.size (fun k_ => (P0_ k_ ∨ w.heap.size ≤ k_)) (.slice Ao41 x4_1.length co41) x4_1) ∧ Aside0 (Below w.heap.size w wc))
                case first =>
                  have H := HC48.out
                  clear HC48
                  replace H := Option.bind_eq_some_iff.mp H
                  obtain ⟨t136, A490, H⟩ := H
                  replace H : (if x8_2 = 0 then (none) else (if (wrap64 (Int.tdiv t136 x8_2)) > 1073741824 then (dist_tidy_rest.j2 k2 x4_1 x8_2 true) else (dist_tidy_rest.j2 k2 x4_1 x8_2 (decide ((x4_1.length : Int) > 4096))))) = some (r1, r2) := H
                  have A49 := Aside0.mk A490
                  clear A490
                  by_cases c50 : x8_2 = 0
                  · rw [if_pos c50] at H
                    exact absurd H (by simp)
                  · rw [if_neg c50] at H
                    have c50b0 : (x8_2 == 0) = false := beq_eq_false_iff_ne.mpr c50
                    have c50b1 : (x8_2 != 0) = true := bne_iff_ne.mpr c50
                    (first | rw [c50b0] | (simp only [i64_w, i32_w]; rw [c50b0]) | skip)
                    by_cases c51 : (wrap64 (Int.tdiv t136 x8_2)) > 1073741824
                    · rw [if_pos c51] at H
                      have c51b0 : decide (1073741824 < (wrap64 (Int.tdiv t136 x8_2))) = true := decide_eq_true c51
                      clear c51
                      have H' := Aside0.mk H
                      clear H
                      go_wp2_with (first | ((with_reducible refine gate_callee (f := 56) rfl ?_); refine goesL_ (some 69) rfl rfl Try.func56 (by kernel_rfl) rfl #[.slice Ao41 x4_1.length co41] rfl (by (try simp only [List.map_toArray, List.map_cons, List.map_nil]); first | done | rfl | (simp only [List.length_drop, List.length_take]; rfl)) ?_; (with_reducible refine (dist_total.calls k2 _ _ x4_1 t136 _ ?side1 ?side2 A49.out).mono ?_); (case side1 => repeat (first | exact (Kd.N_reads' HO_4.out).2.2 | (with_reducible refine Kd.C_alloc ?_ _) | (with_reducible refine Kd.C_drewN ?_ _) | (with_reducible refine Kd.C_drew ?_))); (case side2 => exact (Kd.N_reads' HO_4.out).2.1); rintro e w52 ⟨rfl, hb⟩; refine ⟨_, rfl, ?_⟩; have n0_ := Aside0.mk (Kd.N_below (by (with_reducible repeat (first | apply Kd.N_alloc | apply Kd.N_drewN | apply Kd.N_drew)); exact HO_4.out) hb); have n1_ := Aside0.mk (Kd.N_below (by (with_reducible repeat (first | apply Kd.N_alloc | apply Kd.N_drewN | apply Kd.N_drew)); exact HO_57.out) hb); have n2_ := Aside0.mk (below_step (by repeat (first | (with_reducible first | exact HB.out | apply below_alloc | apply pw_below_drewN | apply below_drew1) | exact HB.out)) hb); clear HO_4; clear HO_57; clear HB; have HO_4 := n0_; have HO_57 := n1_; have HB := n2_; clear n0_ n1_ n2_; (try clear hb); (try clear hb2); (try clear hk); (try clear hi)))
                      go_meet
                      case rel => exact ⟨_, (true), (by first | rfl | (simp; done) | (simp [*]; done)), H', ⟨by have := HK1.out; have := HK2.out; first | omega | exact Nat.le_refl _⟩, ⟨by (try simp only [hl14_1]); (with_reducible repeat (first | apply Kd.N_alloc | apply Kd.N_drewN | apply Kd.N_drew)); exact HO_4.out⟩, ⟨by repeat (first | (with_reducible first | exact HB.out | apply below_alloc | apply pw_below_drewN | apply below_drew1) | exact HB.out)⟩⟩
                    · rw [if_neg c51] at H
                      have c51b0 : decide (1073741824 < (wrap64 (Int.tdiv t136 x8_2))) = false := decide_eq_false c51
                      clear c51
                      have H' := Aside0.mk H
                      clear H
                      go_wp2_with (first | ((with_reducible refine gate_callee (f := 56) rfl ?_); refine goesL_ (some 69) rfl rfl Try.func56 (by kernel_rfl) rfl #[.slice Ao41 x4_1.length co41] rfl (by (try simp only [List.map_toArray, List.map_cons, List.map_nil]); first | done | rfl | (simp only [List.length_drop, List.length_take]; rfl)) ?_; (with_reducible refine (dist_total.calls k2 _ _ x4_1 t136 _ ?side1 ?side2 A49.out).mono ?_); (case side1 => repeat (first | exact (Kd.N_reads' HO_4.out).2.2 | (with_reducible refine Kd.C_alloc ?_ _) | (with_reducible refine Kd.C_drewN ?_ _) | (with_reducible refine Kd.C_drew ?_))); (case side2 => exact (Kd.N_reads' HO_4.out).2.1); rintro e w53 ⟨rfl, hb⟩; refine ⟨_, rfl, ?_⟩; have n0_ := Aside0.mk (Kd.N_below (by (with_reducible repeat (first | apply Kd.N_alloc | apply Kd.N_drewN | apply Kd.N_drew)); exact HO_4.out) hb); have n1_ := Aside0.mk (Kd.N_below (by (with_reducible repeat (first | apply Kd.N_alloc | apply Kd.N_drewN | apply Kd.N_drew)); exact HO_57.out) hb); have n2_ := Aside0.mk (below_step (by repeat (first | (with_reducible first | exact HB.out | apply below_alloc | apply pw_below_drewN | apply below_drew1) | exact HB.out)) hb); clear HO_4; clear HO_57; clear HB; have HO_4 := n0_; have HO_57 := n1_; have HB := n2_; clear n0_ n1_ n2_; (try clear hb); (try clear hb2); (try clear hk); (try clear hi)))
                      go_meet
                      case rel => exact ⟨_, (decide ((x4_1.length : Int) > 4096)), (by first | rfl | (simp; done) | (simp [*]; done)), H', ⟨by have := HK1.out; have := HK2.out; first | omega | exact Nat.le_refl _⟩, ⟨by (try simp only [hl14_1]); (with_reducible repeat (first | apply Kd.N_alloc | apply Kd.N_drewN | apply Kd.N_drew)); exact HO_4.out⟩, ⟨by repeat (first | (with_reducible first | exact HB.out | apply below_alloc | apply pw_below_drewN | apply below_drew1) | exact HB.out)⟩⟩
                case rest =>
                  clear HC48
                  try clear c1
                  try clear p1
                  try clear q1
                  try clear hx1
                  try clear hf1
                  try clear c2
                  try clear c2b0
                  try clear p2
                  try clear c3
                  try clear c4
                  try clear c5
                  try clear p6
                  try clear c9
                  try clear c9b0
                  try clear c9b1
                  try clear c11
                  try clear c12
                  try clear p12
                  try clear q12
                  try clear hx12
                  try clear c13
                  try clear p13
                  try clear q13
                  try clear hx13
                  try clear c14
                  try clear c15
                  try clear p15
                  try clear q15
                  try clear hx15
                  try clear hf15
                  try clear c22
                  try clear c23
                  try clear c31
                  try clear c39
                  try clear c39b0
                  try clear c39b1
                  try clear c39b2
                  try clear c42
                  try clear c42b0
                  try clear c43
                  try clear c43b0
                  try clear c44
                  try clear c44b0
                  try clear c50
                  try clear c50b0
                  try clear c50b1
                  try clear c51
                  try clear c51b0
                  try clear hcz25_0
                  try clear hcz25_1
                  try clear hcz29_0
                  try clear hcz29_1
                  try clear hcz33_0
                  try clear hcz33_1
                  try clear hcz37_0
                  try clear hcz37_1
                  try clear hcz47_0
                  try clear hcz47_1
                  try clear hfz25_0
                  try clear hfz25_1
                  try clear hfz29_0
                  try clear hfz29_1
                  try clear hfz33_0
                  try clear hfz33_1
                  try clear hfz37_0
                  try clear hfz37_1
                  try clear hfz47_0
                  try clear hfz47_1
                  try clear hx121_0
                  try clear hx121_1
                  try clear hx123_0
                  try clear hx123_1
                  try clear hx125_0
                  try clear hx125_1
                  try clear hx133_0
                  try clear hx133_1
                  try clear hx15_0
                  try clear hx15_1
                  try clear p1
                  try clear p12
                  try clear p121
                  try clear p123
                  try clear p125
                  try clear p133
                  try clear p15
                  try clear p2
                  try clear p6
                  try clear q1
                  try clear q12
                  try clear q121
                  try clear q123
                  try clear q125
                  try clear q133
                  try clear q15
                  obtain ⟨kq, x77_47, rfl, HA, HJ47, HO_4, HB⟩ := hcut
                  cases kq with
                  | zero => exact absurd HA.out (by simp [dist_tidy_rest.j2])
                  | succ kj47 =>
                    have H := HA.out
                    clear HA
                    simp only [dist_tidy_rest.j2] at H
                    by_cases c54 : x77_47 = true
                    · subst c54
                      have H1 : (some (([] : List (S96)), 4)) = some (r1, r2) := by rw [if_pos rfl] at H; exact H
                      clear H
                      have H := H1
                      clear H1
                      simp only [Option.some.injEq, Prod.mk.injEq] at H
                      obtain ⟨rfl, rfl⟩ := H
                      go_wp2
                      go_ret2
                      exact ⟨_, HG_.out, _, by first | rfl | (simp [errW_none, errW_some] <;> rfl) | (simp [*, errW_none, errW_some] <;> rfl), by first | exact Kd.S_nil _ _ _ _ _ | exact Kd.N_nil _ _ _ _ _ | exact Kd.V_nil _ _ _ _ _ | exact Kd.Q_nil _ _ _ _ _ | exact Kd.R_nil _ _ _ _ _, by repeat (first | (with_reducible first | exact HB.out | apply below_alloc | apply pw_below_drewN | apply below_drew1) | exact HB.out)⟩
                    · replace c54 := Bool.eq_false_iff.mpr c54
                      subst c54
                      have H1 : (dist_tidy_rest.l2 kj47 x4_1 x8_2 (x4_1.length : Int) 0) = some (r1, r2) := by rw [if_neg (show ¬ (false = true) by decide)] at H; exact H
                      clear H
                      have H := H1
                      clear H1
                      have H' := Aside0.mk H
                      clear H
                      go_wp2
                      go_loopg [80] kj47 (fun kq v80 w' => ∃ (x4_4 : List (S96)) (x80_4 : Int), v80 = .int .i64 x80_4 ∧ Aside0 (dist_tidy_rest.l2 kq x4_4 x8_2 (x4_1.length : Int) x80_4 = some (r1, r2)) ∧ Aside0 (kq ≤ kj47) ∧ Aside0 (Kd.N k96 96 w' w.heap.size (fun k_ => (P0_ k_ ∨ w.heap.size ≤ k_)) (.slice Ao41 x4_1.length co41) x4_4) ∧ Aside0 (Below w.heap.size w w'))
                      case atStart => exact ⟨(x4_1), (0), (by first | rfl | (simp; done) | (simp [*]; done)), H', ⟨Nat.le_refl _⟩, ⟨by (try simp only [hl14_1]); (with_reducible repeat (first | apply Kd.N_alloc | apply Kd.N_drewN | apply Kd.N_drew)); exact HO_4.out⟩, ⟨by repeat (first | (with_reducible first | exact HB.out | apply below_alloc | apply pw_below_drewN | apply below_drew1) | exact HB.out)⟩⟩
                      case round =>
                        clear H'
                        try clear c1
                        try clear p1
                        try clear q1
                        try clear hx1
                        try clear hf1
                        try clear c2
                        try clear c2b0
                        try clear p2
                        try clear c3
                        try clear c4
                        try clear c5
                        try clear p6
                        try clear c9
                        try clear c9b0
                        try clear c9b1
                        try clear c11
                        try clear c12
                        try clear p12
                        try clear q12
                        try clear hx12
                        try clear c13
                        try clear p13
                        try clear q13
                        try clear hx13
                        try clear c14
                        try clear c15
                        try clear p15
                        try clear q15
                        try clear hx15
                        try clear hf15
                        try clear c22
                        try clear c23
                        try clear c31
                        try clear c39
                        try clear c39b0
                        try clear c39b1
                        try clear c39b2
                        try clear c42
                        try clear c42b0
                        try clear c43
                        try clear c43b0
                        try clear c44
                        try clear c44b0
                        try clear c50
                        try clear c50b0
                        try clear c50b1
                        try clear c51
                        try clear c51b0
                        try clear c54
                        try clear hcz25_0
                        try clear hcz25_1
                        try clear hcz29_0
                        try clear hcz29_1
                        try clear hcz33_0
                        try clear hcz33_1
                        try clear hcz37_0
                        try clear hcz37_1
                        try clear hcz47_0
                        try clear hcz47_1
                        try clear hfz25_0
                        try clear hfz25_1
                        try clear hfz29_0
                        try clear hfz29_1
                        try clear hfz33_0
                        try clear hfz33_1
                        try clear hfz37_0
                        try clear hfz37_1
                        try clear hfz47_0
                        try clear hfz47_1
                        try clear hx121_0
                        try clear hx121_1
                        try clear hx123_0
                        try clear hx123_1
                        try clear hx125_0
                        try clear hx125_1
                        try clear hx133_0
                        try clear hx133_1
                        try clear hx15_0
                        try clear hx15_1
                        try clear p1
                        try clear p12
                        try clear p121
                        try clear p123
                        try clear p125
                        try clear p13
                        try clear p133
                        try clear p15
                        try clear p2
                        try clear p6
                        try clear q1
                        try clear q12
                        try clear q121
                        try clear q123
                        try clear q125
                        try clear q13
                        try clear q133
                        try clear q15
                        obtain ⟨x4_4, x80_4, rfl, HA, HK4, HO_4, HB⟩ := hrel
                        have hl4_4 := (Kd.N_reads' HO_4.out).1
                        rw [hl4_4] at HO_4
                        (try simp only [hl4_4])
                        cases gk with
                        | zero => exact absurd HA.out (by simp [dist_tidy_rest.l2])
                        | succ k4 =>
                          have H := HA.out
                          clear HA
                          simp only [dist_tidy_rest.l2] at H
                          by_cases c55 : x80_4 < (x4_1.length : Int)
                          · rw [if_pos c55] at H
                            have c55b0 : decide (x80_4 < (x4_1.length : Int)) = true := decide_eq_true c55
                            try (have c55b0hl14_1 := c55b0; rw [hl14_1] at c55b0hl14_1)
                            try (have c55b0hl4_4 := c55b0; rw [hl4_4] at c55b0hl4_4)
                            clear c55
                            by_cases c56 : 0 ≤ x80_4
                            · rw [if_pos c56] at H
                              have c56b0 : decide (0 ≤ x80_4) = true := decide_eq_true c56
                              clear c56
                              by_cases c57 : x80_4 < (x4_4.length : Int)
                              · rw [if_pos c57] at H
                                have c57b0 : decide (x80_4 < (x4_4.length : Int)) = true := decide_eq_true c57
                                try (have c57b0hl14_1 := c57b0; rw [hl14_1] at c57b0hl14_1)
                                try (have c57b0hl4_4 := c57b0; rw [hl4_4] at c57b0hl4_4)
                                clear c57
                                by_cases c58 : x8_2 = 0
                                · rw [if_pos c58] at H
                                  exact absurd H (by simp)
                                · rw [if_neg c58] at H
                                  have c58b0 : (x8_2 == 0) = false := beq_eq_false_iff_ne.mpr c58
                                  have c58b1 : (x8_2 != 0) = true := bne_iff_ne.mpr c58
                                  obtain ⟨y138, hy138⟩ : ∃ y_ : List (S96), y_ = (x4_4.set (x80_4 : Int).toNat (⟨(rd_T96 x4_4 x80_4).f0, wrap64 (Int.tdiv ((rd_T96 x4_4 x80_4).f1) x8_2)⟩ : S96)) := ⟨_, rfl⟩
                                  replace H : (dist_tidy_rest.l2 k4 y138 x8_2 (x4_1.length : Int) (wrap64 (x80_4 + 1))) = some (r1, r2) := by first | (rw [hy138]; with_reducible exact H) | (have H2_ := (Option.bind_some _ _).symm.trans H; rw [hy138]; with_reducible exact H2_) | (have H2_ := (Option.bind_some _ _).symm.trans H; with_reducible exact H2_) | with_reducible exact H | (rw [hy138]; exact H) | exact H
                                  have Ny138 := Aside0.mk hy138
                                  clear hy138
                                  have H' := Aside0.mk H
                                  clear H
                                  have p137 : 0 ≤ (x80_4 : Int) := of_decide_eq_true (by first | (with_reducible assumption) | assumption)
                                  have q137 : x80_4 < (x4_4.length : Int) := of_decide_eq_true (by first | (with_reducible assumption) | assumption)
                                  obtain ⟨ad137, A137_0, c137_0, e137, hx137_0, hx137_1, hl137_0, hi137_0⟩ := at_T96 (Kd.N_reads' HO_4.out).2.2 x80_4 p137 q137
                                  cases e137
                                  obtain ⟨ce137, hce137, hMe137, hcc137⟩ := Kd.N_get HO_4.out z96 x80_4 p137 (by first | exact q137 | exact of_decide_eq_true (by first | (with_reducible assumption) | assumption) | (have e_ := (Kd.N_reads' HO_4.out).1; omega))
                                  obtain ⟨ua137_0, uc137_0, rfl, ul137_0, ge137_0⟩ := k96_openF hMe137
                                  have hv137_0 := hcc137 0 _ rfl
                                  rw [Nat.add_zero] at hv137_0
                                  replace hv137_0 := Option.some.inj (hv137_0.symm.trans hx137_0)
                                  injection hv137_0 with hva_ hvn_ hvc_
                                  rw [hva_] at ge137_0
                                  rw [hvc_] at ul137_0
                                  have HL137_0 := Aside0.mk (show Kd.V (Kd.int .i64) 3 _ w.heap.size _ _ ((rd_T96 x4_4 x80_4).f0) from Kd.V_mk ul137_0 ge137_0)
                                  clear hva_ hvn_ hvc_ ge137_0 ul137_0
                                  clear hcc137 hce137
                                  have HR137_0 := Aside0.mk hi137_0
                                  have HC137_0 := Aside0.mk hl137_0
                                  clear hi137_0 hl137_0
                                  replace p137 := eq_true p137
                                  replace q137 := eq_true q137
                                  have p59 : 0 ≤ (x80_4 : Int) := of_decide_eq_true (by first | (with_reducible assumption) | assumption)
                                  have q59 : (x80_4 : Int) < ((x4_4.length : Int) : Int) := of_decide_eq_true (by first | (with_reducible assumption) | assumption)
                                  obtain ⟨go59, co59, eo59, gb59, gl59, cl59, HG59⟩ := Kd.N_form HO_4.out (by omega)
                                  (first | cases eo59 | (injection eo59 with ea_ en_ ec_; (first | subst ea_ | (injection ea_ with ea_; subst ea_)); subst ec_; clear en_))
                                  have GB59 := Aside0.mk gb59
                                  have GG59 := Aside0.mk HG59
                                  clear gb59 gl59 HG59
                                  (first | simp only [add_plain] at hx137_0 | skip)
                                  (first | simp only [add_plain] at hx137_1 | skip)
                                  obtain ⟨ce59, hcl59, hM59, hcc59, hfr59⟩ := Kd.N_elem HO_4.out z96 (x80_4 : Int) p59 q59
                                  obtain ⟨ua59_0, uc59_0, rfl, ul59_0, ge59_0⟩ := k96_openF hM59
                                  have hx59_0 : wr.cell? ⟨go59, (x80_4 : Int).toNat * 2, none⟩ = some (.slice ua59_0 ((rd_T96 x4_4 x80_4).f0).length uc59_0) := hcc59 0 _ rfl
                                  have hx59_1 : wr.cell? ⟨go59, (x80_4 : Int).toNat * 2 + 1, none⟩ = some (.int .i64 ((rd_T96 x4_4 x80_4).f1)) := hcc59 1 _ rfl
                                  have hf59_0 : wr.frozen? ⟨go59, (x80_4 : Int).toNat * 2, none⟩ = false := hfr59 0
                                  have hf59_1 : wr.frozen? ⟨go59, (x80_4 : Int).toNat * 2 + 1, none⟩ = false := hfr59 1
                                  clear hcl59 hcc59 hfr59 hM59
                                  replace p59 := eq_true p59
                                  replace q59 := eq_true q59
                                  have HX60 := Aside0.mk (show Kd.N k96 96 wr w.heap.size (fun k_ => (P0_ k_ ∨ w.heap.size ≤ k_)) (.slice (some ⟨go59, 0, none⟩) x4_4.length co41) x4_4 from (by (with_reducible repeat (first | apply Kd.N_alloc | apply Kd.N_drewN | apply Kd.N_drew)); exact HO_4.out))
                                  obtain ⟨ce60, hcl60, hM60, hcc60, hfr60⟩ := Kd.N_elem HX60.out z96 (x80_4 : Int) (of_decide_eq_true (by first | (with_reducible assumption) | assumption)) (by have h_ : (x80_4 : Int) < ((x4_4.length : Int) : Int) := of_decide_eq_true (by first | (with_reducible assumption) | assumption); first | exact h_ | (have e_ := (Kd.N_reads' HO_4.out).1; omega) | simpa using h_)
                                  obtain ⟨ua60_0, uc60_0, rfl, ul60_0, ge60_0⟩ := k96_openF hM60
                                  have HP60 := Kd.N_seg HX60.out (x80_4 : Int) (of_decide_eq_true (by first | (with_reducible assumption) | assumption)) (by have h_ : (x80_4 : Int) < ((x4_4.length : Int) : Int) := of_decide_eq_true (by first | (with_reducible assumption) | assumption); first | exact h_ | (have e_ := (Kd.N_reads' HO_4.out).1; omega) | simpa using h_) (seg := [.int .i64 (wrap64 (Int.tdiv ((rd_T96 x4_4 x80_4).f1) x8_2))]) (j := 1) hcl60 hcc60 (show 2 ≤ 2 from by decide) (x' := (⟨(rd_T96 x4_4 x80_4).f0, wrap64 (Int.tdiv ((rd_T96 x4_4 x80_4).f1) x8_2)⟩ : S96)) (k96_mkF _ _ (⟨(rd_T96 x4_4 x80_4).f0, wrap64 (Int.tdiv ((rd_T96 x4_4 x80_4).f1) x8_2)⟩ : S96) ul60_0 ge60_0) (fun _ hk => hk)
                                  have hx60_1 := hcc60 1 _ rfl
                                  (try simp only [show (k96).sz = 2 from rfl, Nat.mul_one, Nat.add_zero] at hx60_1)
                                  have hf60_1 := hfr60 1
                                  (try simp only [show (k96).sz = 2 from rfl, Nat.mul_one, Nat.add_zero] at hf60_1)
                                  clear hcl60 hcc60 hfr60 hM60
                                  go_wp2_with (first | ((with_reducible refine gate_store (t := 3) (p := 91) rfl ?_); refine store_event (t := 3) (p := 91) (v := ?vo_w61) (w1 := (wr.setCell ⟨go59, (x80_4 : Int).toNat * 2 + 1, none⟩ (.int .i64 (wrap64 (Int.tdiv ((rd_T96 x4_4 x80_4).f1) x8_2))))) ?hg ?ho ?hn ?hr ?_; (case ho => rfl); (case hg => rfl); (case hn => rfl); (case hr => first | (go_simp; done) | (go_simp; rfl)); intro w61 hw; have hg : wr.grownBy w61 (some go59) := (by rw [hw]; exact HP60.2); have hp_ : Kd.N k96 96 w61 w.heap.size (fun k_ => (P0_ k_ ∨ w.heap.size ≤ k_)) (.slice (some ⟨go59, 0, none⟩) x4_4.length co41) y138 := (by rw [hw, Ny138.out]; exact HP60.1); clear HP60; have n0_ := Aside0.mk (hp_); have n1_ := Aside0.mk (Kd.V_afterv (v := (.slice (some ⟨go59, 0, none⟩) x4_4.length co41)) (v1 := (.slice (some ⟨go59, 0, none⟩) x4_4.length co41)) (ok := (fun k_ => (P0_ k_ ∨ w.heap.size ≤ k_))) (by (with_reducible repeat (first | apply Kd.V_alloc | apply Kd.V_drewN | apply Kd.V_drew)); exact HL137_0.out) hg (.inl rfl)); have n2_ := Aside0.mk ((by rw [hw]; exact below_set (HB.out) GB59.out : Below w.heap.size w w61)); clear HO_4; clear HL137_0; clear HB; have HO_4 := n0_; have HL137_0 := n1_; have HB := n2_; clear n0_ n1_ n2_; clear hg hw hp_))
                                  (try simp only [← hl4_4])
                                  go_roundg k4
                                  case measure => have := HK1.out; have := HK2.out; have := HJ47.out; have := HK4.out; omega
                                  case rel => exact ⟨(y138), (wrap64 (x80_4 + 1)), (by first | rfl | (simp; done) | (simp [*]; done)), H', ⟨by have := HK1.out; have := HK2.out; have := HJ47.out; have := HK4.out; omega⟩, ⟨by (try simp only [hl14_1]); (try simp only [hl4_4]); (with_reducible repeat (first | apply Kd.N_alloc | apply Kd.N_drewN | apply Kd.N_drew)); exact HO_4.out⟩, ⟨by repeat (first | (with_reducible first | exact HB.out | apply below_alloc | apply pw_below_drewN | apply below_drew1) | exact HB.out)⟩⟩
                              · rw [if_neg c57] at H
                                exact absurd H (by simp)
                            · rw [if_neg c56] at H
                              exact absurd H (by simp)
                          · rw [if_neg c55] at H
                            have c55b0 : decide (x80_4 < (x4_1.length : Int)) = false := decide_eq_false c55
                            try (have c55b0hl14_1 := c55b0; rw [hl14_1] at c55b0hl14_1)
                            try (have c55b0hl4_4 := c55b0; rw [hl4_4] at c55b0hl4_4)
                            clear c55
                            simp only [Option.some.injEq, Prod.mk.injEq] at H
                            obtain ⟨rfl, rfl⟩ := H
                            go_wp2
                            go_ret2
                            exact ⟨_, HG_.out, _, by first | rfl | (simp [errW_none, errW_some] <;> rfl) | (simp [*, errW_none, errW_some] <;> rfl), by (with_reducible repeat (first | apply Kd.N_alloc | apply Kd.N_drewN | apply Kd.N_drew)); exact HO_4.out, by repeat (first | (with_reducible first | exact HB.out | apply below_alloc | apply pw_below_drewN | apply below_drew1) | exact HB.out)⟩
end
end Go.Proofs.Ytnlpdjklbjclpaa.PNoiseSays
