-- PRINTED by print.py (a twelfth state) out of the translation. Not trusted: Lean checks it.
import Derived.Test.YtnlpdjklbjclpaaPNoiseSaysx0
import Derived.Test.YtnlpdjklbjclpaaPNoiseSaysx2
import Derived.Test.YtnlpdjklbjclpaaPNoiseSaysx3
import Derived.Test.YtnlpdjklbjclpaaPNoiseSaysx8
import Derived.Test.YtnlpdjklbjclpaaPNoiseSaysx9
namespace Go.Proofs.Ytnlpdjklbjclpaa.PNoiseSays
open Go.RowKit Go.Proofs.YtnlpdjklbjclpaaW.PrintWords Go.Proofs.YtnlpdjklbjclpaaW.PrintLast Go.Proofs.YtnlpdjklbjclpaaW.PrintMore
attribute [local go_sem] setCell_drewN max2_int min2_int max_two min_two max_three min_three max_four min_four   -- for this text's walks alone
set_option linter.unusedVariables false
set_option linter.unusedSimpArgs false
section
open Go.Shelf
attribute [local go_sem] Oper.semAt_some
/-- Two lists of parts side by side: the weights of each outcome in both. -/
def mg : Nat → List S96 → List S96 → List (Int × Int)
  | 0, _, _ => []
  | _ + 1, [], [] => []
  | n + 1, [], q :: b => (0, q.f1) :: mg n [] b
  | n + 1, p :: a, [] => (p.f1, 0) :: mg n a []
  | n + 1, p :: a, q :: b => if cmpL p.f0 q.f0 < 0 then (p.f1, 0) :: mg n a (q :: b) else if 0 < cmpL p.f0 q.f0 then (0, q.f1) :: mg n (p :: a) b else (p.f1, q.f1) :: mg n a b
theorem mg_length (n : Nat) : ∀ a b, (mg n a b).length ≤ n := by
  induction n with
  | zero => intro a b; simp [mg]
  | succ n ih =>
    intro a b
    cases a with
    | nil =>
      cases b with
      | nil => simp [mg]
      | cons q b => have := ih [] b; simp [mg]; omega
    | cons p a =>
      cases b with
      | nil => have := ih a []; simp [mg]; omega
      | cons q b =>
        have h1 := ih a (q :: b)
        have h2 := ih (p :: a) b
        have h3 := ih a b
        simp only [mg]
        split
        · simp only [List.length_cons]; omega
        · split <;> (simp only [List.length_cons]; omega)
theorem mg_end (n : Nat) : mg n [] [] = [] := by cases n <;> rfl
def InXY (x : Int × Int) : Prop := 0 ≤ x.1 ∧ x.1 ≤ 1073741824 ∧ 0 ≤ x.2 ∧ x.2 ≤ 1073741824
abbrev XY := { x : Int × Int // InXY x }
/-- What a round of a loop over pairs keeps: what lay ahead of the caller, and the two boxes. -/
def KpP (n₀ Ba Bb : Nat) (W W' : World) : Prop := Below n₀ W W' ∧ W'.heap[Ba]? = W.heap[Ba]? ∧ W'.heap[Bb]? = W.heap[Bb]?
theorem KpP_t {n₀ Ba Bb : Nat} {A B C : World} (h : KpP n₀ Ba Bb A B) (k : KpP n₀ Ba Bb B C) : KpP n₀ Ba Bb A C := ⟨h.1.trans k.1, k.2.1.trans h.2.1, k.2.2.trans h.2.2⟩
theorem KpP_b {n₀ Ba Bb : Nat} {w : World} (hn : n₀ ≤ w.heap.size) (ha : Ba < w.heap.size) (hb : Bb < w.heap.size) (W : World) (l : Nat) (o o' : Obj) (hl : w.heap.size ≤ l) (h : W.heap[l]? = some o) (h1 : o.isCells = false) (h2 : o.isWalk = false) : KpP n₀ Ba Bb W (W.putObj l o') :=
  ⟨belowK_b hn W l o o' hl h h1 h2, World.putObj_heap_other (by omega), World.putObj_heap_other (by omega)⟩
def StepsAt (ALL pre : List (Int × Int)) (l0 l1 : List S96) (i k : Nat) : Prop := ∃ n, pre ++ mg n (l0.drop i) (l1.drop k) = ALL ∧ (l0.length - i) + (l1.length - k) ≤ n
theorem StepsAt.start (l0 l1 : List S96) : StepsAt (mg (l0.length + l1.length) l0 l1) [] l0 l1 0 0 := ⟨_, rfl, by omega⟩
theorem StepsAt.stop {ALL pre : List (Int × Int)} {l0 l1 : List S96} (h : StepsAt ALL pre l0 l1 l0.length l1.length) : pre = ALL := by
  obtain ⟨n, h, _⟩ := h
  rw [List.drop_length, List.drop_length, mg_end, List.append_nil] at h
  exact h
theorem StepsAt.more {ALL pre : List (Int × Int)} {l0 l1 : List S96} {i k : Nat} (h : StepsAt ALL pre l0 l1 i k) (hi : i ≤ l0.length) (hk : k ≤ l1.length) (hl : i < l0.length ∨ k < l1.length) :
    pre.length < ALL.length := by
  obtain ⟨n, h, hn⟩ := h
  rw [← h, List.length_append]
  have : 0 < (mg n (l0.drop i) (l1.drop k)).length := by
    cases n with
    | zero => omega
    | succ n =>
      rcases hA : l0.drop i with _ | ⟨p, a⟩ <;> rcases hB : l1.drop k with _ | ⟨q, b⟩
      · have := congrArg List.length hA; have := congrArg List.length hB; simp at *; omega
      · simp [mg]
      · simp [mg]
      · simp only [mg]
        split
        · simp
        · split <;> simp
  omega
theorem drop_cons_of {l : List S96} {i : Nat} (h : i < l.length) : l.drop i = (rd_T96 l (i : Int)) :: l.drop (i + 1) := by
  rw [List.drop_eq_getElem_cons h]; simp [rd_T96, h]
theorem StepsAt.right {ALL pre : List (Int × Int)} {l0 l1 : List S96} {k : Nat} (h : StepsAt ALL pre l0 l1 l0.length k) (hk : k < l1.length) : StepsAt ALL (pre ++ [(0, (rd_T96 l1 (k : Int)).f1)]) l0 l1 l0.length (k + 1) := by
  obtain ⟨n, h, hn⟩ := h
  obtain ⟨n, rfl⟩ : ∃ m, n = m + 1 := ⟨n - 1, by omega⟩
  refine ⟨n, ?_, by omega⟩
  rw [← h, drop_cons_of hk, List.drop_length]
  simp [mg]
theorem StepsAt.left {ALL pre : List (Int × Int)} {l0 l1 : List S96} {i : Nat} (h : StepsAt ALL pre l0 l1 i l1.length) (hi : i < l0.length) : StepsAt ALL (pre ++ [((rd_T96 l0 (i : Int)).f1, 0)]) l0 l1 (i + 1) l1.length := by
  obtain ⟨n, h, hn⟩ := h
  obtain ⟨n, rfl⟩ : ∃ m, n = m + 1 := ⟨n - 1, by omega⟩
  refine ⟨n, ?_, by omega⟩
  rw [← h, drop_cons_of hi, List.drop_length]
  simp [mg]
theorem StepsAt.lt {ALL pre : List (Int × Int)} {l0 l1 : List S96} {i k : Nat} (h : StepsAt ALL pre l0 l1 i k) (hi : i < l0.length) (hk : k < l1.length) (hc : cmpL (rd_T96 l0 (i : Int)).f0 (rd_T96 l1 (k : Int)).f0 < 0) : StepsAt ALL (pre ++ [((rd_T96 l0 (i : Int)).f1, 0)]) l0 l1 (i + 1) k := by
  obtain ⟨n, h, hn⟩ := h
  obtain ⟨n, rfl⟩ : ∃ m, n = m + 1 := ⟨n - 1, by omega⟩
  refine ⟨n, ?_, by omega⟩
  rw [← h, drop_cons_of hi, drop_cons_of hk]
  simp only [mg]
  rw [if_pos hc]
  simp
theorem StepsAt.gt {ALL pre : List (Int × Int)} {l0 l1 : List S96} {i k : Nat} (h : StepsAt ALL pre l0 l1 i k) (hi : i < l0.length) (hk : k < l1.length) (hc : 0 < cmpL (rd_T96 l0 (i : Int)).f0 (rd_T96 l1 (k : Int)).f0) : StepsAt ALL (pre ++ [(0, (rd_T96 l1 (k : Int)).f1)]) l0 l1 i (k + 1) := by
  obtain ⟨n, h, hn⟩ := h
  obtain ⟨n, rfl⟩ : ∃ m, n = m + 1 := ⟨n - 1, by omega⟩
  refine ⟨n, ?_, by omega⟩
  rw [← h, drop_cons_of hi, drop_cons_of hk]
  simp only [mg]
  rw [if_neg (by omega), if_pos hc]
  simp
theorem StepsAt.eq {ALL pre : List (Int × Int)} {l0 l1 : List S96} {i k : Nat} (h : StepsAt ALL pre l0 l1 i k) (hi : i < l0.length) (hk : k < l1.length) (hc : cmpL (rd_T96 l0 (i : Int)).f0 (rd_T96 l1 (k : Int)).f0 = 0) : StepsAt ALL (pre ++ [((rd_T96 l0 (i : Int)).f1, (rd_T96 l1 (k : Int)).f1)]) l0 l1 (i + 1) (k + 1) := by
  obtain ⟨n, h, hn⟩ := h
  obtain ⟨n, rfl⟩ : ∃ m, n = m + 1 := ⟨n - 1, by omega⟩
  refine ⟨n, ?_, by omega⟩
  rw [← h, drop_cons_of hi, drop_cons_of hk]
  simp only [mg]
  rw [if_neg (by omega), if_neg (by omega)]
  simp
/-- The weights' bounds. -/
def FitW (l : List S96) : Prop := ∀ p ∈ l, 0 ≤ p.f1 ∧ p.f1 ≤ 1073741824 ∧ p.f0.length ≤ 16
theorem FitW.at {l : List S96} (h : FitW l) {i : Nat} (hi : i < l.length) : 0 ≤ (rd_T96 l (i : Int)).f1 ∧ (rd_T96 l (i : Int)).f1 ≤ 1073741824 ∧ (rd_T96 l (i : Int)).f0.length ≤ 16 := by
  have : rd_T96 l (i : Int) = l[i] := by simp [rd_T96, hi]
  rw [this]; exact h _ (List.getElem_mem hi)
theorem keepB {n₀ Ba Bb : Nat} {w0 A B : World} {vA vB : Value} (hn : n₀ = w0.heap.size) (h : Aside0 (Below n₀ w0 A ∧ Boxed A Ba 26 vA ∧ Boxed A Bb 26 vB)) (k : KpP n₀ Ba Bb A B) : Aside0 (Below n₀ w0 B ∧ Boxed B Ba 26 vA ∧ Boxed B Bb 26 vB) :=
  ⟨h.out.1.trans k.1, k.2.1.trans h.out.2.1, k.2.2.trans h.out.2.2⟩
theorem StepsAt.isPre {ALL pre : List (Int × Int)} {l0 l1 : List S96} {i k : Nat} (h : StepsAt ALL pre l0 l1 i k) : pre <+: ALL := by
  obtain ⟨n, h, _⟩ := h
  exact ⟨_, h⟩
theorem map_snoc (pre : List XY) (x : XY) : (pre ++ [x]).map (·.1) = pre.map (·.1) ++ [x.1] := by simp
theorem compareXY (xs ys : List Int) (hx : xs.length ≤ 16) : slices_Compare_int_int.f (xs.length + 1) xs ys = some (cmpL xs ys) := compare_some xs ys (by omega)
set_option maxRecDepth 100000 in
set_option maxHeartbeats 4000000 in
theorem pairs1_in (n : Nat) (hn : 1 ≤ n) (l Ba Bb : Nat) (w0 : World) (A0 A1 : Option Addr) (c0 c1 : Nat) (l0 l1 : List S96) (hf0 : FitW l0) (hf1 : FitW l1) (hl0 : l0.length ≤ 4096) (hl1 : l1.length ≤ 4096)
    (hr0 : Kd.C k96 w0 A0 l0.length l0) (hr1 : Kd.C k96 w0 A1 l1.length l1) (J Jx : List XY → World → Prop)
    (hY : ∀ pre x W, J pre W → pre.length < (mg (l0.length + l1.length) l0 l1).length → YieldAt Fence.wide (n - 1) Try.prog l #[.int .i64 x.1.1, .int .i64 x.1.2] W fun e W' =>
      (e = .returned (.bool true) ∧ J (pre ++ [x]) W' ∧ KpP w0.heap.size Ba Bb W W') ∨ (e = .returned (.bool false) ∧ Jx (pre ++ [x]) W'))
    (hJd : ∀ pre W q, J pre W → J pre (World.drewN W q)) (W : World) (hb0 : Below w0.heap.size w0 W) (hBa : Boxed W Ba 26 (.slice A0 l0.length c0)) (hBb : Boxed W Bb 26 (.slice A1 l1.length c1)) (h0 : J [] W) :
    CallsIn Fence.wide n Try.prog 111 #[.func (.yield l) #[] #[], .pointer (some ⟨Ba, 0, none⟩), .pointer (some ⟨Bb, 0, none⟩)] W fun e W' => (∃ v, e = .returned v) ∧
      ((∃ ys : List XY, ys.map (·.1) = mg (l0.length + l1.length) l0 l1 ∧ J ys W') ∨ (∃ pre : List XY, pre.map (·.1) <+: mg (l0.length + l1.length) l0 l1 ∧ Jx pre W')) := by
  have hA := Aside0.mk hY
  have HR := Aside0.mk (And.intro hr0 hr1)
  have HB := Aside0.mk (And.intro hb0 (And.intro hBa hBb))
  have S0 := Aside0.mk (StepsAt.start l0 l1)
  clear hY hr0 hr1 hb0 hBa hBb
  refine callsIn_of_wp Try.func111 rfl trivial ?_ rfl
  simp only [Try.ntmps111, List.size_toArray, List.length_cons, List.length_nil, Nat.reduceAdd, Nat.reduceSub, Array.replicate_succ, Array.replicate_zero, List.push_toArray, List.append_toArray, List.nil_append, List.cons_append]
  gi_wp2
  gi_loopw [4, 5, 6, 7, 8] (fun vi vk v6 v7 v8 wr => ∃ (i k : Nat) (pre : List XY), i ≤ l0.length ∧ k ≤ l1.length ∧ vi = .int .i64 i ∧ vk = .int .i64 k ∧ J pre wr ∧ Aside0 (StepsAt (mg (l0.length + l1.length) l0 l1) (pre.map (·.1)) l0 l1 i k) ∧ Aside0 (Below w0.heap.size w0 wr ∧ Boxed wr Ba 26 (.slice A0 l0.length c0) ∧ Boxed wr Bb 26 (.slice A1 l1.length c1)))
    (fun vi vk _ _ _ _ => (l0.length + l1.length) - ((intOf vi).toNat + (intOf vk).toNat))
  case atStart => exact ⟨0, 0, [], Nat.zero_le _, Nat.zero_le _, rfl, rfl, h0, S0, HB⟩
  case round =>
    clear S0 HB
    obtain ⟨i, k, pre, hi, hk, rfl, rfl, hJ, HS, HB⟩ := hrel
    have bA := HB.out.2.1.cell
    have bB := HB.out.2.2.cell
    by_cases hi1 : i < l0.length
    · obtain ⟨adA, B0, d0, rfl, hx1, hx2, hx3, hx4⟩ := at_T96 (Kd.C_below HR.out.1 HB.out.1) (i : Int) (by omega) (by omega)
      rw [Int.toNat_natCast] at hx1 hx2
      have wx := hf0.at hi1
      have X4 := Aside0.mk hx4
      clear hx4
      by_cases hk1 : k < l1.length
      · obtain ⟨adB, B1, d1, rfl, hy1, hy2, hy3, hy4⟩ := at_T96 (Kd.C_below HR.out.2 HB.out.1) (k : Int) (by omega) (by omega)
        rw [Int.toNat_natCast] at hy1 hy2
        have wy := hf1.at hk1
        have Y4 := Aside0.mk hy4
        clear hy4
        have CC := Aside0.mk (compareXY (rd_T96 l0 (i : Int)).f0 (rd_T96 l1 (k : Int)).f0 wx.2.2)
        have hmx : Try.prog.follows .mixedOrders = true := by kernel_rfl
        have ni : ¬ i = l0.length := by omega
        have nk : ¬ k = l1.length := by omega
        obtain ⟨c, hc⟩ : ∃ c, c = cmpL (rd_T96 l0 (i : Int)).f0 (rd_T96 l1 (k : Int)).f0 := ⟨_, rfl⟩
        rw [← hc] at CC
        have HC := Aside0.mk hc
        clear hc
        gi_wp2
        refine wpIn_region_quiet_lit rfl hmx (by kernel_rfl) ?_
        repeat (quiet_step_in (fail))
        refine wpQuietIn_step (fun _ _ _ _ => trivial) (fun K hK => ?_)
        go_simp
        apply Exists.intro
        refine ⟨fun _ => ?_, hK _ ?_⟩
        · gi_at_call 112
          exact CallsIn.quiet_of ((callsIn_wide.2 (slices_Compare_int_int.calls _ B0 d0 _ B1 d1 _ c _ (Kd.C_below X4.out (pw_below_drewN (Below.refl _ _) _)) hx3 (Kd.C_below Y4.out (pw_below_drewN (Below.refl _ _) _)) hy3 CC.out)).mono (fun e w' he => ⟨he.1, he.2.out⟩))
        clear hK K
        repeat (quiet_step_in (fail))
        refine wpQuietIn_nil ?_
        intro _ hw'
        obtain ⟨nq, hw''⟩ := hw'
        subst hw''
        all_goals
          have HB2 := Aside0.mk (show Below w0.heap.size w0 (wr.drewN nq) ∧ Boxed (wr.drewN nq) Ba 26 (.slice (some adA) l0.length c0) ∧ Boxed (wr.drewN nq) Bb 26 (.slice (some adB) l1.length c1) from ⟨pw_below_drewN HB.out.1 _, HB.out.2⟩)
          have hJ2 := hJd _ _ nq hJ
          have hx2' : (wr.drewN nq).cell? ⟨(adA.add (i * 2)).block, (adA.add (i * 2)).off + 1, none⟩ = some (.int .i64 (rd_T96 l0 ↑i).f1) := hx2
          have hy2' : (wr.drewN nq).cell? ⟨(adB.add (k * 2)).block, (adB.add (k * 2)).off + 1, none⟩ = some (.int .i64 (rd_T96 l1 ↑k).f1) := hy2
          have bA' : (wr.drewN nq).cell? ⟨Ba, 0, none⟩ = some (.slice (some adA) l0.length c0) := bA
          have bB' : (wr.drewN nq).cell? ⟨Bb, 0, none⟩ = some (.slice (some adB) l1.length c1) := bB
          clear hx1 hx2 hy1 hy2 bA bB CC X4 Y4 HB hJ hx3 hy3
          generalize wr.drewN nq = w2 at *
          by_cases hlt : c < 0
          · have t1 : c ≤ 0 := by omega
            have t2 : ¬ (0 ≤ c) := by omega
            have HS2 := Aside0.mk (HS.out.lt hi1 hk1 (by rw [← HC.out]; exact hlt))
            obtain ⟨fn, tmps, assign, body, hy, hR⟩ := hA.out pre ⟨((rd_T96 l0 (i : Int)).f1, 0), ⟨wx.1, wx.2.1, Int.le_refl 0, (show (0 : Int) ≤ 1073741824 by decide)⟩⟩ w2 hJ2 (by have := HS.out.more hi hk (.inl hi1); simpa using this)
            dsimp only at hy
            clear HC hJ2
            gi_wp2
            refine hR.mono ?_
            rintro e W3 (⟨rfl, hJ3, hk3⟩ | ⟨rfl, hJx3⟩)
            · have HB3 := keepB rfl HB2 hk3
              gi_wp2
              go_roundw
              case rel => exact ⟨i + 1, k, _, by omega, by omega, by first | rfl | simp, by first | rfl | simp, hJ3, ⟨by rw [map_snoc]; exact HS2.out⟩, HB3⟩
              case measure => simp [intOf]; omega
            · gi_wp2
              refine bodyPost_ret (results_none rfl _ _ _) rfl ?_
              exact ⟨⟨_, rfl⟩, .inr ⟨_, by rw [map_snoc]; exact HS2.out.isPre, hJx3⟩⟩
          · by_cases hgt : 0 < c
            · have t1 : ¬ (c ≤ 0) := by omega
              have t2 : 0 ≤ c := by omega
              have HS2 := Aside0.mk (HS.out.gt hi1 hk1 (by rw [← HC.out]; exact hgt))
              obtain ⟨fn, tmps, assign, body, hy, hR⟩ := hA.out pre ⟨(0, (rd_T96 l1 (k : Int)).f1), ⟨Int.le_refl 0, (show (0 : Int) ≤ 1073741824 by decide), wy.1, wy.2.1⟩⟩ w2 hJ2 (by have := HS.out.more hi hk (.inl hi1); simpa using this)
              dsimp only at hy
              clear HC hJ2
              gi_wp2
              refine hR.mono ?_
              rintro e W3 (⟨rfl, hJ3, hk3⟩ | ⟨rfl, hJx3⟩)
              · have HB3 := keepB rfl HB2 hk3
                gi_wp2
                go_roundw
                case rel => exact ⟨i, k + 1, _, by omega, by omega, by first | rfl | simp, by first | rfl | simp, hJ3, ⟨by rw [map_snoc]; exact HS2.out⟩, HB3⟩
                case measure => simp [intOf]; omega
              · gi_wp2
                refine bodyPost_ret (results_none rfl _ _ _) rfl ?_
                exact ⟨⟨_, rfl⟩, .inr ⟨_, by rw [map_snoc]; exact HS2.out.isPre, hJx3⟩⟩
            · have t1 : c ≤ 0 := by omega
              have t2 : 0 ≤ c := by omega
              have HS2 := Aside0.mk (HS.out.eq hi1 hk1 (by rw [← HC.out]; omega))
              obtain ⟨fn, tmps, assign, body, hy, hR⟩ := hA.out pre ⟨((rd_T96 l0 (i : Int)).f1, (rd_T96 l1 (k : Int)).f1), ⟨wx.1, wx.2.1, wy.1, wy.2.1⟩⟩ w2 hJ2 (by have := HS.out.more hi hk (.inl hi1); simpa using this)
              dsimp only at hy
              clear HC hJ2
              gi_wp2
              refine hR.mono ?_
              rintro e W3 (⟨rfl, hJ3, hk3⟩ | ⟨rfl, hJx3⟩)
              · have HB3 := keepB rfl HB2 hk3
                gi_wp2
                go_roundw
                case rel => exact ⟨i + 1, k + 1, _, by omega, by omega, by first | rfl | simp, by first | rfl | simp, hJ3, ⟨by rw [map_snoc]; exact HS2.out⟩, HB3⟩
                case measure => simp [intOf]; omega
              · gi_wp2
                refine bodyPost_ret (results_none rfl _ _ _) rfl ?_
                exact ⟨⟨_, rfl⟩, .inr ⟨_, by rw [map_snoc]; exact HS2.out.isPre, hJx3⟩⟩
      · obtain ⟨k, rfl⟩ : ∃ k', k' = k := ⟨_, rfl⟩
        have hke : k = l1.length := by omega
        have HS2 := Aside0.mk (StepsAt.left (by rw [← hke]; exact HS.out) hi1)
        obtain ⟨fn, tmps, assign, body, hy, hR⟩ := hA.out pre ⟨((rd_T96 l0 (i : Int)).f1, 0), ⟨wx.1, wx.2.1, Int.le_refl 0, (show (0 : Int) ≤ 1073741824 by decide)⟩⟩ wr hJ (by have := HS.out.more hi hk (.inl hi1); simpa using this)
        dsimp only at hy
        have ni : ¬ i = l0.length := by omega
        clear HS
        subst hke
        gi_wp2
        refine hR.mono ?_
        rintro e W3 (⟨rfl, hJ3, hk3⟩ | ⟨rfl, hJx3⟩)
        · have HB3 := keepB rfl HB hk3
          gi_wp2
          go_roundw
          case rel => exact ⟨i + 1, l1.length, _, by omega, by omega, by first | rfl | simp, by first | rfl | simp, hJ3, ⟨by rw [map_snoc]; exact HS2.out⟩, HB3⟩
          case measure => simp [intOf]; omega
        · gi_wp2
          refine bodyPost_ret (results_none rfl _ _ _) rfl ?_
          exact ⟨⟨_, rfl⟩, .inr ⟨_, by rw [map_snoc]; exact HS2.out.isPre, hJx3⟩⟩
    · have hie : i = l0.length := by omega
      by_cases hk1 : k < l1.length
      · obtain ⟨adB, B1, d1, rfl, hy1, hy2, hy3, hy4⟩ := at_T96 (Kd.C_below HR.out.2 HB.out.1) (k : Int) (by omega) (by omega)
        rw [Int.toNat_natCast] at hy1 hy2
        have wy := hf1.at hk1
        clear hy4
        have HS2 := Aside0.mk (StepsAt.right (by rw [← hie]; exact HS.out) hk1)
        obtain ⟨fn, tmps, assign, body, hy, hR⟩ := hA.out pre ⟨(0, (rd_T96 l1 (k : Int)).f1), ⟨Int.le_refl 0, (show (0 : Int) ≤ 1073741824 by decide), wy.1, wy.2.1⟩⟩ wr hJ (by have := HS.out.more hi hk (.inr hk1); simpa using this)
        dsimp only at hy
        have nk : ¬ k = l1.length := by omega
        clear HS
        subst hie
        gi_wp2
        refine hR.mono ?_
        rintro e W3 (⟨rfl, hJ3, hk3⟩ | ⟨rfl, hJx3⟩)
        · have HB3 := keepB rfl HB hk3
          gi_wp2
          go_roundw
          case rel => exact ⟨l0.length, k + 1, _, by omega, by omega, by first | rfl | simp, by first | rfl | simp, hJ3, ⟨by rw [map_snoc]; exact HS2.out⟩, HB3⟩
          case measure => simp [intOf]; omega
        · gi_wp2
          refine bodyPost_ret (results_none rfl _ _ _) rfl ?_
          exact ⟨⟨_, rfl⟩, .inr ⟨_, by rw [map_snoc]; exact HS2.out.isPre, hJx3⟩⟩
      · have hke : k = l1.length := by omega
        have HS' := HS.out
        rw [hie, hke] at HS'
        have HE := Aside0.mk (StepsAt.stop HS')
        clear HS'
        clear HS
        subst hie
        subst hke
        gi_wp2
        go_end0
        exact ⟨⟨_, rfl⟩, .inl ⟨_, HE.out, hJ⟩⟩
set_option maxRecDepth 100000 in
set_option maxHeartbeats 4000000 in
theorem pairs_in (n : Nat) (A0 A1 : Option Addr) (n0 c0 n1 c1 : Nat) (w : World) :
    CallsIn Fence.wide n Try.prog 57 #[.slice A0 n0 c0, .slice A1 n1 c1] w fun e w' => e = .returned (.func (.func 111) #[] #[.pointer (some ⟨w.heap.size, 0, none⟩), .pointer (some ⟨w.heap.size + 1, 0, none⟩)]) ∧ w' = (w.alloc (.cells #[.slice A0 n0 c0] 26)).alloc (.cells #[.slice A1 n1 c1] 26) := by
  refine callsIn_of_wp Try.func57 rfl trivial ?_ rfl
  simp only [Try.ntmps57, List.size_toArray, List.length_cons, List.length_nil, Nat.reduceAdd, Nat.reduceSub, Array.replicate_succ, Array.replicate_zero, List.push_toArray, List.append_toArray, List.nil_append, List.cons_append]
  gi_wp2
  go_ret
  exact ⟨rfl, rfl⟩
theorem pairs_stops (n : Nat) (hn : 1 ≤ n) (Ba Bb : Nat) (w0 : World) (A0 A1 : Option Addr) (c0 c1 : Nat) (l0 l1 : List S96) (hf0 : FitW l0) (hf1 : FitW l1) (hl0 : l0.length ≤ 4096) (hl1 : l1.length ≤ 4096)
    (hr0 : Kd.C k96 w0 A0 l0.length l0) (hr1 : Kd.C k96 w0 A1 l1.length l1) (w : World) (hb : Below w0.heap.size w0 w) (hBa : Boxed w Ba 26 (.slice A0 l0.length c0)) (hBb : Boxed w Bb 26 (.slice A1 l1.length c1)) :
    SeqStopsK Fence.wide n Try.prog 111 #[.pointer (some ⟨Ba, 0, none⟩), .pointer (some ⟨Bb, 0, none⟩)] (fun x : XY => #[.int .i64 x.1.1, .int .i64 x.1.2]) (KpP w0.heap.size Ba Bb) (fun ys => ys.map (·.1) = mg (l0.length + l1.length) l0 l1) (fun pre => pre.map (·.1) <+: mg (l0.length + l1.length) l0 l1) (mg (l0.length + l1.length) l0 l1).length w := fun l J Jx W hW hJ hJx hY h0 =>
  pairs1_in n hn l Ba Bb w0 A0 A1 c0 c1 l0 l1 hf0 hf1 hl0 hl1 hr0 hr1 J Jx hY (fun pre X q h => hJ pre X (X.drewN q) none h ⟨rfl, rfl, rfl, Nat.le_refl _, fun _ _ _ => rfl⟩ (fun r e => by cases e)) W (hb.trans (hW.mono hb.size)) ((hW.block Ba hBa.lt).trans hBa) ((hW.block Bb hBb.lt).trans hBb) h0
/-! ## Numbers and small loops -/
theorem w64 {x : Int} (h0 : -9223372036854775808 ≤ x) (h1 : x ≤ 9223372036854775807) : wrap64 x = x := by unfold wrap64; omega
theorem gcd_ev (a : Nat) : ∀ b : Nat, Ev (fun k => dist_gcd.l0 k (a : Int) (b : Int)) ((Nat.gcd a b : Nat) : Int) := by
  have main : ∀ n a b : Nat, b ≤ n → Ev (fun k => dist_gcd.l0 k (a : Int) (b : Int)) ((Nat.gcd a b : Nat) : Int) := by
    intro n
    induction n with
    | zero =>
      intro a b hb
      obtain rfl : b = 0 := by omega
      refine Ev.step (fun k => ?_) (Ev.now _)
      rw [dist_gcd.l0, if_pos (by rfl), Nat.gcd_zero_right]
    | succ n ih =>
      intro a b hb
      by_cases h0 : b = 0
      · subst h0
        refine Ev.step (fun k => ?_) (Ev.now _)
        rw [dist_gcd.l0, if_pos (by rfl), Nat.gcd_zero_right]
      · have hlt : a % b < b := Nat.mod_lt _ (by omega)
        have e : Int.tmod (a : Int) (b : Int) = ((a % b : Nat) : Int) := by rw [Int.ofNat_tmod]
        rw [Nat.gcd_comm, Nat.gcd_rec, Nat.gcd_comm]
        refine Ev.step (fun k => ?_) (ih b (a % b) (by omega))
        rw [dist_gcd.l0, if_neg (by omega), e]
  exact fun b => main b a b (Nat.le_refl _)
theorem gcd_evf (a b : Nat) : Ev (fun k => dist_gcd.f k (a : Int) (b : Int)) ((Nat.gcd a b : Nat) : Int) := Ev.congr (fun _ => rfl) (gcd_ev a b)
theorem gcdI_evf {a b : Int} (ha : 0 ≤ a) (hb : 0 ≤ b) : Ev (fun k => dist_gcd.f k a b) ((Int.gcd a b : Nat) : Int) := by
  obtain ⟨m, rfl⟩ := Int.eq_ofNat_of_zero_le ha
  obtain ⟨n, rfl⟩ := Int.eq_ofNat_of_zero_le hb
  exact gcd_evf m n
/-- u / v above x / y. -/
theorem more_ev : ∀ (n : Nat) (u v x y : Int), v + y ≤ n → 0 ≤ u → 0 < v → 0 ≤ x → 0 < y → u ≤ 4611686018427387904 → v ≤ 4611686018427387904 → x ≤ 4611686018427387904 → y ≤ 4611686018427387904 →
    Ev (fun k => dist_more.l0 k u v x y) (decide (x * v < u * y)) := by
  intro n
  induction n with
  | zero => intro u v x y h; omega
  | succ n ih =>
    intro u v x y hn hu hv hx hy bu bv bx bY
    have q1 : Int.tdiv u v = u / v := Int.tdiv_eq_ediv_of_nonneg hu
    have q2 : Int.tdiv x y = x / y := Int.tdiv_eq_ediv_of_nonneg hx
    have r1 : Int.tmod u v = u % v := Int.tmod_eq_emod_of_nonneg hu
    have r2 : Int.tmod x y = x % y := Int.tmod_eq_emod_of_nonneg hx
    have p1 : u / v ≤ u := Int.ediv_le_self _ hu
    have p2 : x / y ≤ x := Int.ediv_le_self _ hx
    have p3 : 0 ≤ u / v := Int.ediv_nonneg hu (by omega)
    have p4 : 0 ≤ x / y := Int.ediv_nonneg hx (by omega)
    have s1 : 0 ≤ u % v := Int.emod_nonneg _ (by omega)
    have s2 : u % v < v := Int.emod_lt_of_pos _ hv
    have s3 : 0 ≤ x % y := Int.emod_nonneg _ (by omega)
    have s4 : x % y < y := Int.emod_lt_of_pos _ hy
    have e1 : wrap64 (u / v) = u / v := w64 (by omega) (by omega)
    have e2 : wrap64 (x / y) = x / y := w64 (by omega) (by omega)
    have d1 : v * (u / v) + u % v = u := Int.mul_ediv_add_emod u v
    have d2 : y * (x / y) + x % y = x := Int.mul_ediv_add_emod x y
    generalize hA : u / v = A at *
    generalize hB : x / y = B at *
    generalize hR : u % v = R at *
    generalize hS : x % y = S at *
    have key : u * y - x * v = v * y * (A - B) + (R * y - S * v) := by
      rw [← d1, ← d2, Int.add_mul, Int.add_mul, Int.mul_sub, Int.mul_right_comm v A y, Int.mul_right_comm y B v, Int.mul_comm y v]; omega
    have t1 : 0 ≤ R * y := Int.mul_nonneg s1 (by omega)
    have t2 : R * y < v * y := Int.mul_lt_mul_of_pos_right s2 hy
    have t3 : 0 ≤ S * v := Int.mul_nonneg s3 (by omega)
    have t4 : S * v < v * y := by rw [Int.mul_comm v y]; exact Int.mul_lt_mul_of_pos_right s4 hv
    by_cases hq : A = B
    · have key' : u * y - x * v = R * y - S * v := by rw [key, hq, Int.sub_self, Int.mul_zero, Int.zero_add]
      by_cases hR0 : R = 0
      · refine Ev.step (f := fun _ => some (decide (x * v < u * y))) (fun k => ?_) (Ev.now _)
        rw [dist_more.l0, if_neg (by omega), if_neg (by omega), q1, q2, e1, e2, if_pos hq, r1, if_pos hR0]
        have : R * y = 0 := by rw [hR0, Int.zero_mul]
        congr 1
        rw [decide_eq_decide]
        omega
      · by_cases hS0 : S = 0
        · refine Ev.step (f := fun _ => some (decide (x * v < u * y))) (fun k => ?_) (Ev.now _)
          rw [dist_more.l0, if_neg (by omega), if_neg (by omega), q1, q2, e1, e2, if_pos hq, r1, if_neg hR0, r2, if_pos hS0]
          have : S * v = 0 := by rw [hS0, Int.zero_mul]
          have : 0 < R * y := Int.mul_pos (by omega) hy
          congr 1
          rw [decide_eq_decide]
          omega
        · have h := ih y S v R (by omega) (by omega) (by omega) (by omega) (by omega) bY (by omega) bv (by omega)
          have e : decide (x * v < u * y) = decide (v * S < y * R) := by
            rw [decide_eq_decide, Int.mul_comm v S, Int.mul_comm y R]; omega
          rw [e]
          refine Ev.step (fun k => ?_) h
          rw [dist_more.l0, if_neg (by omega), if_neg (by omega), q1, q2, e1, e2, if_pos hq, r1, if_neg hR0, r2, if_neg hS0]
    · refine Ev.step (f := fun _ => some (decide (x * v < u * y))) (fun k => ?_) (Ev.now _)
      rw [dist_more.l0, if_neg (by omega), if_neg (by omega), q1, q2, e1, e2, if_neg hq]
      congr 1
      rw [decide_eq_decide]
      by_cases hlt : A > B
      · have : v * y * 1 ≤ v * y * (A - B) := Int.mul_le_mul_of_nonneg_left (by omega) (Int.le_of_lt (Int.mul_pos hv hy))
        omega
      · have : v * y * (A - B) ≤ v * y * (-1) := Int.mul_le_mul_of_nonneg_left (by omega) (Int.le_of_lt (Int.mul_pos hv hy))
        omega
/-! ## How far two distributions are apart -/
def fU (ta tb : Int) (p : Int × Int) : Int := if p.1 * tb < p.2 * ta then p.2 * ta else p.1 * tb
def fV (ta tb : Int) (p : Int × Int) : Int := if p.1 * tb < p.2 * ta then p.1 * tb else p.2 * ta
def fg (ta tb : Int) (p : Int × Int) : Int := ((Int.gcd (fU ta tb p) (fV ta tb p) : Nat) : Int)
def farStep (ta tb : Int) (s p : Int × Int) : Int × Int :=
  if s.1 * (fV ta tb p / fg ta tb p) < (fU ta tb p / fg ta tb p) * s.2 then (fU ta tb p / fg ta tb p, fV ta tb p / fg ta tb p) else s
def farGo (ta tb : Int) : List (Int × Int) → Int × Int → Option (Int × Int)
  | [], s => some s
  | p :: l, s => if p.1 = 0 ∨ p.2 = 0 then none else farGo ta tb l (farStep ta tb s p)
def farEnd : Option (Int × Int) → Int × Int × Int
  | none => (0, 0, 6)
  | some s => if s.1 > 1073741824 ∨ s.2 > 1073741824 then (0, 0, 4) else (s.1, s.2, 0)
theorem farGo_snoc (ta tb : Int) (p : Int × Int) : ∀ l s, farGo ta tb (l ++ [p]) s = (farGo ta tb l s).bind fun s' => if p.1 = 0 ∨ p.2 = 0 then none else some (farStep ta tb s' p) := by
  intro l
  induction l with
  | nil => intro s; simp [farGo]
  | cons q l ih =>
    intro s
    simp only [List.cons_append, farGo]
    split
    · rfl
    · exact ih _
theorem farGo_none (ta tb : Int) (l m : List (Int × Int)) : ∀ s, farGo ta tb l s = none → farGo ta tb (l ++ m) s = none := by
  induction l with
  | nil => intro s h; simp [farGo] at h
  | cons q l ih =>
    intro s h
    simp only [List.cons_append, farGo] at h ⊢
    split
    · rfl
    · next hc => rw [if_neg hc] at h; exact ih _ h
structure FarB (ta tb : Int) (p : Int × Int) : Prop where
  v1 : 0 < fV ta tb p
  vu : fV ta tb p ≤ fU ta tb p
  u2 : fU ta tb p ≤ 1152921504606846976
  g1 : 0 < fg ta tb p
  gv : fg ta tb p ∣ fV ta tb p
  gu : fg ta tb p ∣ fU ta tb p
  qv : 0 < fV ta tb p / fg ta tb p
  qu : 0 < fU ta tb p / fg ta tb p
  qv2 : fV ta tb p / fg ta tb p ≤ 1152921504606846976
  qu2 : fU ta tb p / fg ta tb p ≤ 1152921504606846976
theorem farB {ta tb : Int} {p : Int × Int} (h1 : 0 < p.1) (h2 : p.1 ≤ 1073741824) (h3 : 0 < p.2) (h4 : p.2 ≤ 1073741824) (ha : 0 < ta) (ha2 : ta ≤ 1073741824) (hb : 0 < tb) (hb2 : tb ≤ 1073741824) : FarB ta tb p := by
  have m1 : 0 < p.1 * tb := Int.mul_pos h1 hb
  have m2 : 0 < p.2 * ta := Int.mul_pos h3 ha
  have m3 : p.1 * tb ≤ 1073741824 * 1073741824 := Int.mul_le_mul h2 hb2 (by omega) (by decide)
  have m4 : p.2 * ta ≤ 1073741824 * 1073741824 := Int.mul_le_mul h4 ha2 (by omega) (by decide)
  have v1 : 0 < fV ta tb p := by unfold fV; split <;> omega
  have vu : fV ta tb p ≤ fU ta tb p := by unfold fV fU; split <;> omega
  have u2 : fU ta tb p ≤ 1152921504606846976 := by unfold fU; split <;> omega
  have g1 : 0 < fg ta tb p := by
    unfold fg
    have := Int.gcd_pos_of_ne_zero_left (fV ta tb p) (a := fU ta tb p) (by omega)
    omega
  have gv : fg ta tb p ∣ fV ta tb p := Int.gcd_dvd_right ..
  have gu : fg ta tb p ∣ fU ta tb p := Int.gcd_dvd_left ..
  have qv : 0 < fV ta tb p / fg ta tb p := Int.ediv_pos_of_pos_of_dvd v1 (by omega) gv
  have qu : 0 < fU ta tb p / fg ta tb p := Int.ediv_pos_of_pos_of_dvd (by omega) (by omega) gu
  have e1 := Int.ediv_le_self (a := fV ta tb p) (fg ta tb p) (by omega)
  have e2 := Int.ediv_le_self (a := fU ta tb p) (fg ta tb p) (by omega)
  exact ⟨v1, vu, u2, g1, gv, gu, qv, qu, by omega, by omega⟩
/-- What is kept of a fraction in Far's loop. -/
def PosS (s : Int × Int) : Prop := 0 < s.1 ∧ s.1 ≤ 1152921504606846976 ∧ 0 < s.2 ∧ s.2 ≤ 1152921504606846976
theorem farStep_pos {ta tb : Int} {p s : Int × Int} (h : FarB ta tb p) (hs : PosS s) : PosS (farStep ta tb s p) := by
  unfold farStep
  split
  · exact ⟨h.qu, h.qu2, h.qv, h.qv2⟩
  · exact hs
theorem far_gcd {ta tb : Int} {p : Int × Int} (h : FarB ta tb p) : ∃ K, dist_gcd.f K (fU ta tb p) (fV ta tb p) = some (fg ta tb p) := (gcdI_evf (by have := h.v1; have := h.vu; omega) (by have := h.v1; omega)).rounds
theorem far_more {ta tb : Int} {p s : Int × Int} (h : FarB ta tb p) (hs : PosS s) : ∃ K, dist_more.f K (fU ta tb p / fg ta tb p) (fV ta tb p / fg ta tb p) s.1 s.2 = some (decide (s.1 * (fV ta tb p / fg ta tb p) < (fU ta tb p / fg ta tb p) * s.2)) := by
  obtain ⟨s1, s2, s3, s4⟩ := hs
  have h1 := h.qv; have h2 := h.qv2; have h3 := h.qu; have h4 := h.qu2
  have hn : fV ta tb p / fg ta tb p + s.2 ≤ ((fV ta tb p / fg ta tb p + s.2).toNat : Int) := by omega
  exact (more_ev _ (fU ta tb p / fg ta tb p) (fV ta tb p / fg ta tb p) s.1 s.2 hn (by omega) h1 (by omega) s3 (by omega) (by omega) (by omega) (by omega)).rounds
theorem own_blk {B : Nat} {W W' : World} {row : Option Nat} (hg : W.grownBy W' row) (hr : ∀ r, row = some r → B ≤ r ∧ ∃ o : Obj, W.heap[r]? = some o ∧ o.isCells = false) {b : Nat} {cs : Array Value} {t : TypeId} {fr : Nat × Nat} (h : W.heap[b]? = some (.cells cs t fr)) : W'.heap[b]? = some (.cells cs t fr) :=
  (hg.block b (Array.getElem?_eq_some_iff.1 h).1 (fun e => by
    obtain ⟨_, o, ho, hc⟩ := hr b e.symm
    rw [h] at ho; cases ho; cases hc)).trans h
/-- Far's own cells. -/
structure FarW (w W : World) (b : Nat) (ta tb u d er : Int) : Prop where
  below : Below w.heap.size w W
  r4 : W.heap[w.heap.size]? = some (.cells #[.int .i64 0, .int .i64 0] 23 (0, 0))
  r5 : Boxed W (w.heap.size + 1) 27 (.int .i64 er)
  b7 : Boxed W b 3 (.int .i64 ta)
  b8 : Boxed W (b + 1) 3 (.int .i64 tb)
  b9 : Boxed W (b + 1 + 1) 3 (.int .i64 u)
  b10 : Boxed W (b + 1 + 1 + 1) 3 (.int .i64 d)
theorem FarW.own {β : Type} {w : World} {b : Nat} {ta tb : Int} {B : Nat} (hB : w.heap.size ≤ B) (f : β → Int × Int × Int) : OwnFrom B (fun s W => FarW w W b ta tb (f s).1 (f s).2.1 (f s).2.2) := fun s X Y row h hg hr =>
  ⟨ownFrom_below (β := Unit) (Nat.le_refl _) hB () X Y row h.below hg hr, own_blk hg hr h.r4, own_blk hg hr h.r5, own_blk hg hr h.b7, own_blk hg hr h.b8, own_blk hg hr h.b9, own_blk hg hr h.b10⟩
def FarI (w : World) (b : Nat) (ta tb : Int) (pre : List XY) (W : World) : Prop := ∃ s : Int × Int, farGo ta tb (pre.map (·.1)) (1, 1) = some s ∧ PosS s ∧ FarW w W b ta tb s.1 s.2 0
def FarX (w : World) (b : Nat) (ta tb : Int) (c : Code) (pre : List XY) (W : World) : Prop := c = .ret ∧ farGo ta tb (pre.map (·.1)) (1, 1) = none ∧ ∃ s : Int × Int, FarW w W b ta tb s.1 s.2 6
theorem FarI.own {w : World} {b : Nat} {ta tb : Int} {B : Nat} (hB : w.heap.size ≤ B) : OwnFrom B (FarI w b ta tb) := by
  rintro pre X Y row ⟨s, h1, h2, h3⟩ hg hr
  exact ⟨s, h1, h2, FarW.own hB (fun s : Int × Int × Int => s) (s.1, s.2, 0) X Y row h3 hg hr⟩
theorem FarX.own {w : World} {b : Nat} {ta tb : Int} {B : Nat} (hB : w.heap.size ≤ B) (c : Code) : OwnFrom B (FarX w b ta tb c) := by
  rintro pre X Y row ⟨hc, h1, s, h3⟩ hg hr
  exact ⟨hc, h1, s, FarW.own hB (fun s : Int × Int × Int => s) (s.1, s.2, 6) X Y row h3 hg hr⟩
theorem fblk_set {W : World} {n j : Nat} {cs : Array Value} {t : TypeId} {fr : Nat × Nat} (v : Value) (h : W.heap[n]? = some (.cells cs t fr)) : (W.setCell ⟨n, j, none⟩ v).heap[n]? = some (.cells (cs.setIfInBounds j v) t fr) := by
  obtain ⟨hlt, hk⟩ := Array.getElem?_eq_some_iff.1 h
  show (W.heap.modify n _)[n]? = _
  rw [Array.getElem?_eq_getElem (by rw [Array.size_modify]; exact hlt), Array.getElem_modify_self, hk]
  try rfl
theorem fblk_far {W : World} {n m j : Nat} {o : Obj} (v : Value) (h : W.heap[m]? = some o) (hne : m ≠ n) : (W.setCell ⟨n, j, none⟩ v).heap[m]? = some o := (Below.heap_setCell W ⟨n, j, none⟩ v m hne).trans h
theorem FarW.fail {w W : World} {b : Nat} {ta tb u d : Int} (h : FarW w W b ta tb u d 0) (hb : w.heap.size + 3 ≤ b) : FarW w (((W.setCell ⟨w.heap.size, 0, none⟩ (.int .i64 0)).setCell ⟨w.heap.size, 1, none⟩ (.int .i64 0)).setCell ⟨w.heap.size + 1, 0, none⟩ (.int .i64 6)) b ta tb u d 6 where
  below := ((h.below.setCell (p := ⟨w.heap.size, 0, none⟩) (Nat.le_refl _) _).setCell (p := ⟨w.heap.size, 1, none⟩) (Nat.le_refl _) _).setCell (p := ⟨w.heap.size + 1, 0, none⟩) (Nat.le_succ _) _
  r4 := fblk_far _ (fblk_set _ (fblk_set _ h.r4)) (by omega)
  r5 := fblk_set _ (fblk_far _ (fblk_far _ h.r5 (by omega)) (by omega))
  b7 := fblk_far _ (fblk_far _ (fblk_far _ h.b7 (by omega)) (by omega)) (by omega)
  b8 := fblk_far _ (fblk_far _ (fblk_far _ h.b8 (by omega)) (by omega)) (by omega)
  b9 := fblk_far _ (fblk_far _ (fblk_far _ h.b9 (by omega)) (by omega)) (by omega)
  b10 := fblk_far _ (fblk_far _ (fblk_far _ h.b10 (by omega)) (by omega)) (by omega)
theorem FarW.drewN {w W : World} {b : Nat} {ta tb u d e : Int} (h : FarW w W b ta tb u d e) (n : Nat) : FarW w (W.drewN n) b ta tb u d e := ⟨pw_below_drewN h.below n, h.r4, h.r5, h.b7, h.b8, h.b9, h.b10⟩
theorem FarW.turn {w W : World} {b : Nat} {ta tb u d : Int} (u' d' : Int) (h : FarW w W b ta tb u d 0) (hb : w.heap.size + 3 ≤ b) : FarW w ((W.setCell ⟨b + 1 + 1, 0, none⟩ (.int .i64 u')).setCell ⟨b + 1 + 1 + 1, 0, none⟩ (.int .i64 d')) b ta tb u' d' 0 where
  below := (h.below.setCell (p := ⟨b + 1 + 1, 0, none⟩) (by show w.heap.size ≤ b + 1 + 1; omega) _).setCell (p := ⟨b + 1 + 1 + 1, 0, none⟩) (by show w.heap.size ≤ b + 1 + 1 + 1; omega) _
  r4 := fblk_far _ (fblk_far _ h.r4 (by omega)) (by omega)
  r5 := fblk_far _ (fblk_far _ h.r5 (by omega)) (by omega)
  b7 := fblk_far _ (fblk_far _ h.b7 (by omega)) (by omega)
  b8 := fblk_far _ (fblk_far _ h.b8 (by omega)) (by omega)
  b9 := fblk_far _ (fblk_set _ h.b9) (by omega)
  b10 := fblk_set _ (fblk_far _ h.b10 (by omega))
theorem KpP_drewN {n₀ Ba Bb : Nat} {A B : World} (h : KpP n₀ Ba Bb A B) (n : Nat) : KpP n₀ Ba Bb A (B.drewN n) := ⟨pw_below_drewN h.1 n, h.2.1, h.2.2⟩
theorem KpP_refl (n₀ Ba Bb : Nat) (A : World) : KpP n₀ Ba Bb A A := ⟨Below.refl _ _, rfl, rfl⟩
theorem KpP_set {n₀ Ba Bb : Nat} {A B : World} (h : KpP n₀ Ba Bb A B) (g j : Nat) (v : Value) (hg : n₀ ≤ g) (ha : Ba ≠ g) (hb : Bb ≠ g) : KpP n₀ Ba Bb A (B.setCell ⟨g, j, none⟩ v) :=
  ⟨h.1.setCell (p := ⟨g, j, none⟩) hg v, (Below.heap_setCell B ⟨g, j, none⟩ v Ba ha).trans h.2.1, (Below.heap_setCell B ⟨g, j, none⟩ v Bb hb).trans h.2.2⟩
theorem KeepsOthers_drewN {A B : World} (h : KeepsOthers A B) (n : Nat) : KeepsOthers A (B.drewN n) := ⟨h.size, h.same⟩
theorem farX_snoc {ta tb : Int} {pre : List XY} {x : XY} {s : Int × Int} (h : farGo ta tb (pre.map (·.1)) (1, 1) = some s) (hx : x.1.1 = 0 ∨ x.1.2 = 0) : farGo ta tb ((pre ++ [x]).map (·.1)) (1, 1) = none := by
  rw [List.map_append, List.map_cons, List.map_nil, farGo_snoc, h]
  simp [hx]
theorem farI_snoc {ta tb : Int} {pre : List XY} {x : XY} {s : Int × Int} (h : farGo ta tb (pre.map (·.1)) (1, 1) = some s) (hx : ¬ (x.1.1 = 0 ∨ x.1.2 = 0)) : farGo ta tb ((pre ++ [x]).map (·.1)) (1, 1) = some (farStep ta tb s x.1) := by
  rw [List.map_append, List.map_cons, List.map_nil, farGo_snoc, h]
  simp [hx]
/-- The results' cells, written. -/
theorem far_res {w W : World} {er x y e2 : Int} (hb : Below w.heap.size w W) (h4 : W.heap[w.heap.size]? = some (.cells #[.int .i64 0, .int .i64 0] 23 (0, 0))) (h5 : Boxed W (w.heap.size + 1) 27 (.int .i64 er)) :
    Below w.heap.size w (((W.setCell ⟨w.heap.size, 0, none⟩ (.int .i64 x)).setCell ⟨w.heap.size, 1, none⟩ (.int .i64 y)).setCell ⟨w.heap.size + 1, 0, none⟩ (.int .i64 e2)) ∧
    (((W.setCell ⟨w.heap.size, 0, none⟩ (.int .i64 x)).setCell ⟨w.heap.size, 1, none⟩ (.int .i64 y)).setCell ⟨w.heap.size + 1, 0, none⟩ (.int .i64 e2)).heap[w.heap.size]? = some (.cells #[.int .i64 x, .int .i64 y] 23 (0, 0)) ∧
    Boxed (((W.setCell ⟨w.heap.size, 0, none⟩ (.int .i64 x)).setCell ⟨w.heap.size, 1, none⟩ (.int .i64 y)).setCell ⟨w.heap.size + 1, 0, none⟩ (.int .i64 e2)) (w.heap.size + 1) 27 (.int .i64 e2) :=
  ⟨((hb.setCell (p := ⟨w.heap.size, 0, none⟩) (Nat.le_refl _) _).setCell (p := ⟨w.heap.size, 1, none⟩) (Nat.le_refl _) _).setCell (p := ⟨w.heap.size + 1, 0, none⟩) (Nat.le_succ _) _,
   fblk_far _ (fblk_set _ (fblk_set _ h4)) (by omega), fblk_set _ (fblk_far _ (fblk_far _ h5 (by omega)) (by omega))⟩
theorem keeps3 (W : World) (a b c : Addr) (x y z : Value) : KeepsOthers W (((W.setCell a x).setCell b y).setCell c z) := ((KeepsOthers.setCell _ _ _).trans (KeepsOthers.setCell _ _ _)).trans (KeepsOthers.setCell _ _ _)
theorem farEnd_much {su sd : Int} (h : su > 1073741824 ∨ sd > 1073741824) : farEnd (some (su, sd)) = (0, 0, 4) := if_pos h
theorem farEnd_ok {su sd : Int} (h : ¬ (su > 1073741824 ∨ sd > 1073741824)) : farEnd (some (su, sd)) = (su, sd, 0) := if_neg h
set_option maxRecDepth 100000 in
theorem far_end (w W : World) (x y e : Int) (D : Nat) (tmps : Array Value) (h4 : tmps.getD 4 undef = .pointer (some ⟨w.heap.size, 0, none⟩)) (h5 : tmps.getD 5 undef = .pointer (some ⟨w.heap.size + 1, 0, none⟩)) (hb : Below w.heap.size w W)
    (hr4 : W.heap[w.heap.size]? = some (.cells #[.int .i64 x, .int .i64 y] 23 (0, 0))) (hr5 : Boxed W (w.heap.size + 1) 27 (.int .i64 e)) (hK : W.heap[D]? = some (.deferred (some []))) (hD : w.heap.size + 2 ≤ D) (R : Ending → World → Prop)
    (hR : ∀ W', Below w.heap.size w W' → R (.returned (.tuple #[.agg #[.int .i64 x, .int .i64 y], .int .i64 e])) W') : bodyPostM Fence.wide 5 Try.prog Try.f15 R .ret { tmps := tmps, defers := [{ target := .collected D, args := #[] }] } W := by
  refine ⟨by simp, .inl ⟨_, _, rfl, run_takeDeferred hK, ?_⟩⟩
  have k4 : (W.putObj D (.deferred none)).heap[w.heap.size]? = some (.cells #[.int .i64 x, .int .i64 y] 23 (0, 0)) := (World.putObj_heap_other (by omega)).trans hr4
  have k5 : (W.putObj D (.deferred none)).heap[w.heap.size + 1]? = some (.cells #[.int .i64 e] 27 (0, 0)) := (World.putObj_heap_other (by omega)).trans hr5
  have c1 : (W.putObj D (.deferred none)).cell? ⟨w.heap.size, 0, none⟩ = some (.int .i64 x) := by simp [World.cell?, k4]
  have c2 : (W.putObj D (.deferred none)).cell? ⟨w.heap.size, 1, none⟩ = some (.int .i64 y) := by simp [World.cell?, k4]
  have c3 : (W.putObj D (.deferred none)).cell? ⟨w.heap.size + 1, 0, none⟩ = some (.int .i64 e) := by simp [World.cell?, k5]
  refine ⟨.tuple #[.agg #[.int .i64 x, .int .i64 y], .int .i64 e], ?_, hR _ ((Below.refl _ _).trans (hb.trans (belowK_b (w := w) (Nat.le_refl _) W D _ _ (by omega) hK rfl rfl)))⟩
  have h4' : tmps[4]?.getD undef = .pointer (some ⟨w.heap.size, 0, none⟩) := by simpa using h4
  have h5' : tmps[5]?.getD undef = .pointer (some ⟨w.heap.size + 1, 0, none⟩) := by simpa using h5
  simp [results, Try.f15, go_sem, h4', h5', c1, c2, c3]
theorem two_C (w : World) (A0 A1 : Option Addr) (c0 c1 : Nat) (l0 l1 : List S96) (hr0 : Kd.C k96 w A0 l0.length l0) (hc0 : l0.length ≤ c0) (hr1 : Kd.C k96 w A1 l1.length l1) (hc1 : l1.length ≤ c1) (b : Nat)
    (h0 : w.cell? ⟨b, 0, none⟩ = some (.slice A0 l0.length c0)) (h1 : w.cell? ⟨b, 1, none⟩ = some (.slice A1 l1.length c1)) : Kd.C (Kd.slice 96 k96) w (some ⟨b, 0, none⟩) 2 [l0, l1] := by
  refine ⟨rfl, by decide, fun _ => ⟨_, rfl, fun j p hp => ?_⟩⟩
  rcases j with _ | _ | j
  · have e : l0 = p := by simpa using hp
    subst e
    refine ⟨[.slice A0 l0.length c0], rfl, ⟨A0, c0, rfl, hc0, hr0⟩, fun i u hu => ?_⟩
    rcases i with _ | i
    · have e : Value.slice A0 l0.length c0 = u := by simpa using hu
      rw [← e]; exact h0
    · simp at hu
  · have e : l1 = p := by simpa using hp
    subst e
    refine ⟨[.slice A1 l1.length c1], rfl, ⟨A1, c1, rfl, hc1, hr1⟩, fun i u hu => ?_⟩
    rcases i with _ | i
    · have e : Value.slice A1 l1.length c1 = u := by simpa using hu
      rw [← e]; exact h1
    · simp at hu
  · simp at hp
set_option maxRecDepth 100000 in
set_option maxHeartbeats 8000000 in
theorem far_main (k : Nat) (A0 A1 : Option Addr) (c0 c1 : Nat) (l0 l1 : List S96) (w : World) (ta tb : Int)
    (hr0 : Kd.C k96 w A0 l0.length l0) (hc0 : l0.length ≤ c0) (hr1 : Kd.C k96 w A1 l1.length l1) (hc1 : l1.length ≤ c1)
    (hw : dist_wrongs.f k [l0, l1] = some 0) (ht0 : dist_total.f k l0 = some ta) (ht1 : dist_total.f k l1 = some tb)
    (hf0 : FitW l0) (hf1 : FitW l1) (hl0 : l0.length ≤ 4096) (hl1 : l1.length ≤ 4096) (ha : 0 < ta) (ha2 : ta ≤ 1073741824) (hb : 0 < tb) (hb2 : tb ≤ 1073741824) (R : Ending → World → Prop) (x y er : Int) (hend : farEnd (farGo ta tb (mg (l0.length + l1.length) l0 l1) (1, 1)) = (x, y, er)) (hR : ∀ W', Below w.heap.size w W' → R (.returned (.tuple #[.agg #[.int .i64 x, .int .i64 y], .int .i64 er])) W') :
    CallsIn Fence.wide 5 Try.prog 15 #[.slice A0 l0.length c0, .slice A1 l1.length c1] w R := by
  have HR := Aside0.mk (And.intro hr0 hr1)
  have HW := Aside0.mk hw
  have HT := Aside0.mk (And.intro ht0 ht1)
  have HC := Aside0.mk (And.intro hc0 hc1)
  have HE := Aside0.mk hend
  clear hr0 hr1 hw ht0 ht1 hc0 hc1 hend
  refine callsIn_of_wp_marks Try.func15 rfl trivial ?_ rfl
  simp only [Try.ntmps15, List.size_toArray, List.length_cons, List.length_nil, Nat.reduceAdd, Nat.reduceSub, Array.replicate_succ, Array.replicate_zero, List.push_toArray, List.append_toArray, List.nil_append, List.cons_append]
  gi_wp2
  obtain ⟨w1, hw1⟩ : ∃ w1, w1 = (((w.alloc (.cells #[.int .i64 0, .int .i64 0] 23)).alloc (.cells #[.int .i64 0] 27)).alloc (.cells #[.slice A0 l0.length c0, .slice A1 l1.length c1] 26)) := ⟨_, rfl⟩
  have hsz1 : w1.heap.size = w.heap.size + 3 := by rw [hw1]; simp
  have HB1 : Aside0 (Below w.heap.size w w1) := ⟨by rw [hw1]; exact (((Below.refl _ w).alloc (Nat.le_refl _) _).alloc (by simp) _).alloc (by simp; omega) _⟩
  have HX4 : Aside0 (w1.heap[w.heap.size]? = some (.cells #[.int .i64 0, .int .i64 0] 23 (0, 0))) := ⟨by rw [hw1]; exact blk_alloc (blk_alloc (blk_new w _) _) _⟩
  have HX5 : Aside0 (Boxed w1 (w.heap.size + 1) 27 (.int .i64 0)) := ⟨by rw [hw1]; have := Boxed.new (w.alloc (.cells #[.int .i64 0, .int .i64 0] 23)) 27 (.int .i64 0); rw [World.size_alloc] at this; exact this.alloc _⟩
  have HX6 : Aside0 (w1.heap[w.heap.size + 2]? = some (.cells #[.slice A0 l0.length c0, .slice A1 l1.length c1] 26 (0, 0))) := ⟨by rw [hw1]; have := blk_new ((w.alloc (.cells #[.int .i64 0, .int .i64 0] 23)).alloc (.cells #[.int .i64 0] 27)) (.cells #[.slice A0 l0.length c0, .slice A1 l1.length c1] 26); rw [World.size_alloc, World.size_alloc] at this; exact this⟩
  have W2 := two_C w1 A0 A1 c0 c1 l0 l1 (Kd.C_below HR.out.1 HB1.out) HC.out.1 (Kd.C_below HR.out.2 HB1.out) HC.out.2 (w.heap.size + 2) (by simp [World.cell?, HX6.out]) (by simp [World.cell?, HX6.out])
  have CW := callsIn_wide (n := 4) |>.2 (dist_wrongs.calls k _ 2 [l0, l1] 0 w1 W2 (by simp) HW.out)
  clear W2 HX6
  rw [← hw1]
  refine ⟨trivial, ?_⟩
  gi_at_call 55
  refine CW.mono ?_
  clear CW
  rintro e w2 ⟨rfl, hb2⟩
  have HB2 := Aside0.mk (show Below w.heap.size w w2 from HB1.out.trans (hb2.mono (by omega)))
  have HX4 := Aside0.mk ((hb2.block w.heap.size (by omega)).trans HX4.out)
  have HX5 := Aside0.mk (show Boxed w2 (w.heap.size + 1) 27 (.int .i64 0) from (hb2.block (w.heap.size + 1) (by omega)).trans HX5.out)
  have hsz2 : w.heap.size + 3 ≤ w2.heap.size := by have := hb2.size; omega
  clear hb2 hw1 hsz1 HB1
  gi_wp2
  refine ⟨trivial, ?_⟩
  gi_at_call 56
  refine (callsIn_wide.2 (dist_total.calls k A0 c0 l0 ta w2 (Kd.C_below HR.out.1 HB2.out) HC.out.1 HT.out.1)).mono ?_
  rintro e w3 ⟨rfl, hb3⟩
  have HB3 := Aside0.mk (show Below w.heap.size w w3 from HB2.out.trans (hb3.mono (by omega)))
  have HX4 := Aside0.mk ((hb3.block w.heap.size (by omega)).trans HX4.out)
  have HX5 := Aside0.mk (show Boxed w3 (w.heap.size + 1) 27 (.int .i64 0) from (hb3.block (w.heap.size + 1) (by omega)).trans HX5.out)
  have hsz3 : w.heap.size + 3 ≤ w3.heap.size := by have := hb3.size; omega
  clear hb3 HB2 hsz2
  gi_wp2
  refine ⟨trivial, ?_⟩
  gi_at_call 56
  refine (callsIn_wide.2 (dist_total.calls k A1 c1 l1 tb w3 (Kd.C_below HR.out.2 HB3.out) HC.out.2 HT.out.2)).mono ?_
  rintro e w4 ⟨rfl, hb4⟩
  have HB4 := Aside0.mk (show Below w.heap.size w w4 from HB3.out.trans (hb4.mono (by omega)))
  have HX4 := Aside0.mk ((hb4.block w.heap.size (by omega)).trans HX4.out)
  have HX5 := Aside0.mk (show Boxed w4 (w.heap.size + 1) 27 (.int .i64 0) from (hb4.block (w.heap.size + 1) (by omega)).trans HX5.out)
  have hsz4 : w.heap.size + 3 ≤ w4.heap.size := by have := hb4.size; omega
  clear hb4 HB3 hsz3
  gi_wp2
  obtain ⟨w5, hw5⟩ : ∃ w5, w5 = ((((w4.alloc (.cells #[.int .i64 ta] 3)).alloc (.cells #[.int .i64 tb] 3)).alloc (.cells #[.int .i64 1] 3)).alloc (.cells #[.int .i64 1] 3)) := ⟨_, rfl⟩
  rw [← hw5]
  obtain ⟨b, hbb⟩ : ∃ b, b = w4.heap.size := ⟨_, rfl⟩
  have hsz5 : w5.heap.size = b + 4 := by rw [hw5, hbb]; simp
  have HW5 : Aside0 (FarW w w5 b ta tb 1 1 0) := ⟨by
    rw [hbb]
    have q7 := Boxed.new w4 3 (.int .i64 ta)
    have q8 := Boxed.new (w4.alloc (.cells #[.int .i64 ta] 3)) 3 (.int .i64 tb)
    have q9 := Boxed.new ((w4.alloc (.cells #[.int .i64 ta] 3)).alloc (.cells #[.int .i64 tb] 3)) 3 (.int .i64 1)
    have q10 := Boxed.new (((w4.alloc (.cells #[.int .i64 ta] 3)).alloc (.cells #[.int .i64 tb] 3)).alloc (.cells #[.int .i64 1] 3)) 3 (.int .i64 1)
    simp only [World.size_alloc] at q8 q9 q10
    rw [hw5]
    exact ⟨below_alloc (below_alloc (below_alloc (below_alloc HB4.out _) _) _) _, blk_alloc (blk_alloc (blk_alloc (blk_alloc HX4.out _) _) _) _, (((HX5.out.alloc _).alloc _).alloc _).alloc _, ((q7.alloc _).alloc _).alloc _, (q8.alloc _).alloc _, q9.alloc _, q10⟩⟩
  have hbw : w.heap.size + 3 ≤ b := by omega
  rw [← hbb]
  clear hw5 hbb HB4 HX4 HX5 hsz4
  refine ⟨trivial, ?_⟩
  gi_at_call 57
  refine (pairs_in 4 A0 A1 l0.length c0 l1.length c1 w5).mono ?_
  rintro e w6 ⟨rfl, hw6⟩
  have HW6 : Aside0 (FarW w w6 b ta tb 1 1 0) := ⟨by
    have h := HW5.out
    rw [hw6]
    exact ⟨below_alloc (below_alloc h.below _) _, blk_alloc (blk_alloc h.r4 _) _, (h.r5.alloc _).alloc _, (h.b7.alloc _).alloc _, (h.b8.alloc _).alloc _, (h.b9.alloc _).alloc _, (h.b10.alloc _).alloc _⟩⟩
  have HBa : Aside0 (Boxed w6 w5.heap.size 26 (.slice A0 l0.length c0)) := ⟨by rw [hw6]; exact (Boxed.new w5 26 _).alloc _⟩
  have HBb : Aside0 (Boxed w6 (w5.heap.size + 1) 26 (.slice A1 l1.length c1)) := ⟨by rw [hw6]; have := Boxed.new (w5.alloc (.cells #[.slice A0 l0.length c0] 26)) 26 (.slice A1 l1.length c1); rw [World.size_alloc] at this; exact this⟩
  have hsz6 : w6.heap.size = b + 6 := by rw [hw6]; simp [hsz5]
  rw [hsz5] at HBa HBb ⊢
  clear hw6 HW5 hsz5
  gi_wp2
  refine wpIn_rangeFunc_ownG rfl (by decide) (gf := 111) (lb := #[.pointer (some ⟨b + 4, 0, none⟩), .pointer (some ⟨b + 4 + 1, 0, none⟩)]) rfl trivial (enters_of Try.func111 (by kernel_rfl) rfl)
    (pairs_stops 4 (by decide) (b + 4) (b + 4 + 1) w A0 A1 c0 c1 l0 l1 hf0 hf1 hl0 hl1 HR.out.1 HR.out.2 w6 HW6.out.below HBa.out HBb.out) KpP_t (KpP_b (by omega) (by omega) (by omega)) (Below.refl _ _) (fun _ => rfl)
    (FarI w b ta tb) (FarX w b ta tb) (FarI.own (by omega)) (FarX.own (by omega)) ⟨(1, 1), rfl, ⟨by decide, by decide, by decide, by decide⟩, HW6.out⟩
    (fun x => { tmps := #[.slice A0 l0.length c0, .slice A1 l1.length c1, undef, undef, .pointer (some ⟨w.heap.size, 0, none⟩), .pointer (some ⟨w.heap.size + 1, 0, none⟩), .int .i64 0, .pointer (some ⟨b, 0, none⟩), .pointer (some ⟨b + 1, 0, none⟩), .pointer (some ⟨b + 1 + 1, 0, none⟩), .pointer (some ⟨b + 1 + 1 + 1, 0, none⟩), .int .i64 x.1.1, .int .i64 x.1.2, undef, undef, undef, .slice A0 l0.length c0, .slice A1 l1.length c1, .slice (some ⟨w.heap.size + 1 + 1, 0, none⟩) 2 2, .int .i64 0, .int .i64 0, .bool false, undef, undef, .slice A0 l0.length c0, .int .i64 ta, .slice A1 l1.length c1, .int .i64 tb, .slice A0 l0.length c0, .slice A1 l1.length c1, .func (.func 111) #[] #[.pointer (some ⟨b + 4, 0, none⟩), .pointer (some ⟨b + 4 + 1, 0, none⟩)], .int .i64 x.1.1, .int .i64 x.1.2, undef, undef, undef, undef, undef, undef, undef, undef, undef, undef, undef, undef, undef, undef, undef, undef, undef, undef, undef, undef, undef, undef, undef, undef, undef, undef, undef, undef, undef, undef, undef, undef, undef, undef, undef, undef, undef, undef, undef, undef, undef, undef, undef, undef], defers := [] }) ?assign ?body ?done ?stop
  case assign =>
    intro l x W K hK
    gi_wp2
    exact hK
  case body =>
    rintro l pre ⟨⟨X, Y⟩, hXY⟩ W ⟨⟨su, sd⟩, hs1, hs2, hW⟩ _
    have HWW := Aside0.mk hW
    have HS1 := Aside0.mk hs1
    have HS2 := Aside0.mk hs2
    have c7 := hW.b7.cell
    have c8 := hW.b8.cell
    have c9 := hW.b9.cell
    have c10 := hW.b10.cell
    have f9 := hW.b9.frozen
    have f10 := hW.b10.frozen
    have c5 := hW.r5.cell
    have f5 := hW.r5.frozen
    have c4 : W.cell? ⟨w.heap.size, 0, none⟩ = some (.int .i64 0) := by simp [World.cell?, hW.r4]
    have c4' : W.cell? ⟨w.heap.size, 1, none⟩ = some (.int .i64 0) := by simp [World.cell?, hW.r4]
    have f4 : W.frozen? ⟨w.heap.size, 0, none⟩ = false := by simp [World.frozen?, hW.r4]
    have f4' : W.frozen? ⟨w.heap.size, 1, none⟩ = false := by simp [World.frozen?, hW.r4]
    clear hW hs1 hs2
    by_cases hX0 : X = 0
    · have hN := farX_snoc (x := ⟨(X, Y), hXY⟩) HS1.out (.inl hX0)
      subst hX0
      have HN := Aside0.mk hN
      clear hN
      gi_wp2
      exact ⟨(((KeepsOthers.setCell _ _ _).trans (KeepsOthers.setCell _ _ _)).trans (KeepsOthers.setCell _ _ _)).from _, rfl, HN.out, (su, sd), HWW.out.fail hbw⟩
    · by_cases hY0 : Y = 0
      · have hN := farX_snoc (x := ⟨(X, Y), hXY⟩) HS1.out (.inr hY0)
        subst hY0
        have HN := Aside0.mk hN
        clear hN
        gi_wp2
        exact ⟨(((KeepsOthers.setCell _ _ _).trans (KeepsOthers.setCell _ _ _)).trans (KeepsOthers.setCell _ _ _)).from _, rfl, HN.out, (su, sd), HWW.out.fail hbw⟩
      · have HN := Aside0.mk (farI_snoc (x := ⟨(X, Y), hXY⟩) HS1.out (by simp [hX0, hY0]))
        have FB : FarB ta tb (X, Y) := farB (show 0 < X by have := hXY.1; simp at this; omega) hXY.2.1 (show 0 < Y by have := hXY.2.2.1; simp at this; omega) hXY.2.2.2 ha ha2 hb hb2
        have FP := Aside0.mk (farStep_pos FB HS2.out)
        obtain ⟨K1, hk1⟩ := far_gcd FB
        obtain ⟨K2, hk2⟩ := far_more FB HS2.out
        have hmx : Try.prog.follows .mixedOrders = true := by kernel_rfl
        have hX0b : (X == 0) = false := by simp [hX0]
        have hY0b : (Y == 0) = false := by simp [hY0]
        have m1 : 0 ≤ X * tb ∧ X * tb ≤ 1073741824 * 1073741824 := ⟨Int.mul_nonneg hXY.1 (by omega), Int.mul_le_mul hXY.2.1 hb2 (by omega) (by decide)⟩
        have m2 : 0 ≤ Y * ta ∧ Y * ta ≤ 1073741824 * 1073741824 := ⟨Int.mul_nonneg hXY.2.2.1 (by omega), Int.mul_le_mul hXY.2.2.2 ha2 (by omega) (by decide)⟩
        have n1 : IntKind.i64.wrap (X * tb) = X * tb := by rw [IntKind.wrap_i64]; omega
        have n2 : IntKind.i64.wrap (Y * ta) = Y * ta := by rw [IntKind.wrap_i64]; omega
        obtain ⟨u, hu⟩ : ∃ u, u = fU ta tb (X, Y) := ⟨_, rfl⟩
        obtain ⟨v, hv⟩ : ∃ v, v = fV ta tb (X, Y) := ⟨_, rfl⟩
        obtain ⟨g, hg⟩ : ∃ g, g = fg ta tb (X, Y) := ⟨_, rfl⟩
        have e1 : IntKind.i64.wrap (u.tdiv g) = u / g := by
          have h1 := FB.v1; have h2 := FB.vu; have h3 := FB.u2; have h4 := FB.g1; have h5 := FB.qu; have h6 := FB.qu2
          rw [← hu, ← hg] at *
          rw [Int.tdiv_eq_ediv_of_nonneg (by omega), IntKind.wrap_i64]; omega
        have e2 : IntKind.i64.wrap (v.tdiv g) = v / g := by
          have h1 := FB.v1; have h4 := FB.g1; have h5 := FB.qv; have h6 := FB.qv2
          rw [← hv, ← hg] at *
          rw [Int.tdiv_eq_ediv_of_nonneg (by omega), IntKind.wrap_i64]; omega
        have g0 : ¬ g = 0 := by have := FB.g1; rw [← hg] at this; omega
        have g0b : (g == 0) = false := by simp [g0]
        rw [← hu, ← hv, ← hg] at hk1 hk2
        have FS : farStep ta tb (su, sd) (X, Y) = if su * (v / g) < (u / g) * sd then (u / g, v / g) else (su, sd) := by unfold farStep; rw [← hu, ← hv, ← hg]
        obtain ⟨qu, hqu⟩ : ∃ q, q = u / g := ⟨_, rfl⟩
        obtain ⟨qv, hqv⟩ : ∃ q, q = v / g := ⟨_, rfl⟩
        rw [← hqu, ← hqv] at hk2 FS
        rw [← hqu] at e1
        rw [← hqv] at e2
        have huv : (X * tb < Y * ta ∧ X * tb = v ∧ Y * ta = u ∧ v < u) ∨ (¬ X * tb < Y * ta ∧ X * tb = u ∧ Y * ta = v ∧ ¬ u < v) := by
          unfold fU at hu
          unfold fV at hv
          by_cases c : X * tb < Y * ta
          · rw [if_pos c] at hu hv; exact .inl ⟨c, hv.symm, hu.symm, by rw [hu, hv]; exact c⟩
          · rw [if_neg c] at hu hv; exact .inr ⟨c, hu.symm, hv.symm, by rw [hu, hv]; exact c⟩
        have HK1 := Aside0.mk hk1
        clear m1 m2 hk1 hu hv hg hqu hqv FB
        obtain ⟨bb, hbb⟩ : ∃ bb, bb = decide (su * qv < qu * sd) := ⟨_, rfl⟩
        rw [← hbb] at hk2
        have HK2 := Aside0.mk hk2
        have HBB := Aside0.mk hbb
        have HFS := Aside0.mk FS
        have HN1 := Aside0.mk n1
        have HN2 := Aside0.mk n2
        clear hk2 hbb FS n1 n2
        rcases huv with ⟨_, q1, q2, q3⟩ | ⟨_, q1, q2, q3⟩
        all_goals
          have n1 := HN1.out.trans q1
          have n2 := HN2.out.trans q2
          clear q1 q2 HN1 HN2
          gi_wp2
          refine wpIn_region_quietR_lit (l := l) rfl (by kernel_rfl) hmx (by kernel_rfl) ?_
          repeat (quiet_step_in (fail))
          refine wpQuietIn_nil ?_
          intro _ hw'
          obtain ⟨nq, hw''⟩ := hw'
          subst hw''
          clear n1 n2
          gi_wp2
          refine ⟨trivial, ?_⟩
          gi_at_call 58
          ((with_reducible refine (CallsIn.inRound l (callsIn_wide.2 (dist_gcd.calls K1 u v g _ HK1.out))).mono ?_))
          rintro e w7 ⟨rfl, ⟨nd, rfl⟩⟩
          gi_wp2
          refine wpIn_region_quietR_lit (l := l) rfl (by kernel_rfl) hmx (by kernel_rfl) ?_
          repeat (quiet_step_in (fail))
          refine wpQuietIn_nil ?_
          intro _ hw'
          obtain ⟨nq2, hw''⟩ := hw'
          subst hw''
          clear e1 e2
          gi_wp2
          refine ⟨trivial, ?_⟩
          gi_at_call 59
          ((with_reducible refine (CallsIn.inRound l (callsIn_wide.2 (dist_more.calls K2 qu qv su sd bb _ HK2.out))).mono ?_))
          rintro e w8 ⟨rfl, ⟨nd2, rfl⟩⟩
          rcases bb with _ | _
          · have hF : farStep ta tb (su, sd) (X, Y) = (su, sd) := by rw [HFS.out, if_neg (of_decide_eq_false HBB.out.symm)]
            have HF := Aside0.mk hF
            clear hF
            gi_wp2
            exact ⟨(KeepsOthers_drewN (KeepsOthers.refl W) _).from _, KpP_drewN (KpP_refl _ _ _ _) _, (su, sd), by rw [← HF.out]; exact HN.out, by rw [← HF.out]; exact FP.out, HWW.out.drewN _⟩
          · have hF : farStep ta tb (su, sd) (X, Y) = (qu, qv) := by rw [HFS.out, if_pos (of_decide_eq_true HBB.out.symm)]
            have HF := Aside0.mk hF
            clear hF
            gi_wp2
            exact ⟨(((KeepsOthers_drewN (KeepsOthers.refl W) _).trans (KeepsOthers.setCell _ _ _)).trans (KeepsOthers.setCell _ _ _)).from _, KpP_set (KpP_set (KpP_drewN (KpP_refl _ _ _ _) _) _ _ _ (by omega) (by omega) (by omega)) _ _ _ (by omega) (by omega) (by omega), (qu, qv), by rw [← HF.out]; exact HN.out, by rw [← HF.out]; exact FP.out, (HWW.out.drewN _).turn _ _ hbw⟩
  case done =>
    rintro D ys W hD hS ⟨⟨su, sd⟩, hs1, hs2, hW⟩ hK
    have HWW := Aside0.mk hW
    rw [hS] at hs1
    have HS1 := Aside0.mk hs1
    have HKK := Aside0.mk hK
    have c9 := hW.b9.cell
    have c10 := hW.b10.cell
    have c5 := hW.r5.cell
    have f5 := hW.r5.frozen
    have c4 : W.cell? ⟨w.heap.size, 0, none⟩ = some (.int .i64 0) := by simp [World.cell?, hW.r4]
    have c4' : W.cell? ⟨w.heap.size, 1, none⟩ = some (.int .i64 0) := by simp [World.cell?, hW.r4]
    have f4 : W.frozen? ⟨w.heap.size, 0, none⟩ = false := by simp [World.frozen?, hW.r4]
    have f4' : W.frozen? ⟨w.heap.size, 1, none⟩ = false := by simp [World.frozen?, hW.r4]
    clear hW hs1 hs2 hK
    by_cases hm1 : su > 1073741824
    · obtain ⟨rfl, rfl, rfl⟩ : x = 0 ∧ y = 0 ∧ er = 4 := by
        have h := HE.out
        rw [HS1.out] at h
        rw [farEnd_much (Or.inl hm1)] at h
        exact ⟨congrArg (·.1) h.symm, congrArg (·.2.1) h.symm, congrArg (·.2.2) h.symm⟩
      gi_wp2
      have F := far_res (x := 0) (y := 0) (e2 := 4) HWW.out.below HWW.out.r4 HWW.out.r5
      exact far_end w _ 0 0 4 D _ rfl rfl F.1 F.2.1 F.2.2 ((keeps3 _ _ _ _ _ _ _).same D _ HKK.out rfl) (by omega) R hR
    · by_cases hm2 : sd > 1073741824
      · obtain ⟨rfl, rfl, rfl⟩ : x = 0 ∧ y = 0 ∧ er = 4 := by
          have h := HE.out
          rw [HS1.out] at h
          rw [farEnd_much (Or.inr hm2)] at h
          exact ⟨congrArg (·.1) h.symm, congrArg (·.2.1) h.symm, congrArg (·.2.2) h.symm⟩
        gi_wp2
        have F := far_res (x := 0) (y := 0) (e2 := 4) HWW.out.below HWW.out.r4 HWW.out.r5
        exact far_end w _ 0 0 4 D _ rfl rfl F.1 F.2.1 F.2.2 ((keeps3 _ _ _ _ _ _ _).same D _ HKK.out rfl) (by omega) R hR
      · obtain ⟨rfl, rfl, rfl⟩ : x = su ∧ y = sd ∧ er = 0 := by
          have h := HE.out
          rw [HS1.out] at h
          rw [farEnd_ok (fun q => q.elim hm1 hm2)] at h
          exact ⟨congrArg (·.1) h.symm, congrArg (·.2.1) h.symm, congrArg (·.2.2) h.symm⟩
        gi_wp2
        have F := far_res (x := x) (y := y) (e2 := 0) HWW.out.below HWW.out.r4 HWW.out.r5
        exact far_end w _ x y 0 D _ rfl rfl F.1 F.2.1 F.2.2 ((keeps3 _ _ _ _ _ _ _).same D _ HKK.out rfl) (by omega) R hR
  case stop =>
    rintro D c pre W hD hS ⟨rfl, hs1, ⟨su, sd⟩, hW⟩ hK
    obtain ⟨rfl, rfl, rfl⟩ : x = 0 ∧ y = 0 ∧ er = 6 := by
      have h := HE.out
      obtain ⟨t, ht⟩ := hS
      rw [← ht, farGo_none ta tb _ t _ hs1] at h
      exact ⟨congrArg (·.1) h.symm, congrArg (·.2.1) h.symm, congrArg (·.2.2) h.symm⟩
    gi_wp2
    exact far_end w _ 0 0 6 D _ rfl rfl hW.below hW.r4 hW.r5 hK (by omega) R hR
end
open Classical in
/-- The bounds that Far asks of two lists. -/
def FarFit (l0 l1 : List S96) (ta tb : Int) : Prop := FitW l0 ∧ FitW l1 ∧ l0.length ≤ 4096 ∧ l1.length ≤ 4096 ∧ 0 < ta ∧ ta ≤ 1073741824 ∧ 0 < tb ∧ tb ≤ 1073741824
open Classical in
noncomputable def dist_Far.f (k : Nat) (l0 l1 : List S96) : Option (Int × Int × Int) := (dist_wrongs.f k [l0, l1]).bind fun e => (dist_total.f k l0).bind fun ta => (dist_total.f k l1).bind fun tb => if e = 0 ∧ FarFit l0 l1 ta tb then some (farEnd (farGo ta tb (mg (l0.length + l1.length) l0 l1) (1, 1))) else none
theorem dist_Far.f_of {k : Nat} {l0 l1 : List S96} {ta tb : Int} (h0 : dist_wrongs.f k [l0, l1] = some 0) (h1 : dist_total.f k l0 = some ta) (h2 : dist_total.f k l1 = some tb) (h3 : FarFit l0 l1 ta tb) : dist_Far.f k l0 l1 = some (farEnd (farGo ta tb (mg (l0.length + l1.length) l0 l1) (1, 1))) := by
  unfold dist_Far.f
  rw [h0, Option.bind_some, h1, Option.bind_some, h2, Option.bind_some, if_pos ⟨rfl, h3⟩]
open Classical in
theorem dist_Far.f_some {k : Nat} {l0 l1 : List S96} {r} (h : dist_Far.f k l0 l1 = some r) : ∃ ta tb, dist_wrongs.f k [l0, l1] = some 0 ∧ dist_total.f k l0 = some ta ∧ dist_total.f k l1 = some tb ∧ FarFit l0 l1 ta tb ∧ r = farEnd (farGo ta tb (mg (l0.length + l1.length) l0 l1) (1, 1)) := by
  unfold dist_Far.f at h
  obtain ⟨e, he, hx1⟩ := Option.bind_eq_some_iff.1 h
  obtain ⟨ta, ha, hx2⟩ := Option.bind_eq_some_iff.1 hx1
  obtain ⟨tb, hb, hx3⟩ := Option.bind_eq_some_iff.1 hx2
  clear h hx1 hx2
  have h : (if e = 0 ∧ FarFit l0 l1 ta tb then some (farEnd (farGo ta tb (mg (l0.length + l1.length) l0 l1) (1, 1))) else none) = some r := hx3
  clear hx3
  by_cases hc : e = 0 ∧ FarFit l0 l1 ta tb
  · rw [if_pos hc] at h
    obtain ⟨rfl, hf⟩ := hc
    exact ⟨ta, tb, he, ha, hb, hf, (Option.some.inj h).symm⟩
  · rw [if_neg hc] at h
    exact absurd h (by simp)
theorem dist_Far.mono (l0 l1 : List S96) (k : Nat) : LeO (dist_Far.f k l0 l1) (dist_Far.f (k + 1) l0 l1) := fun r h => by
  obtain ⟨ta, tb, h0, h1, h2, h3, rfl⟩ := dist_Far.f_some h
  exact dist_Far.f_of (dist_wrongs.mono [l0, l1] k _ h0) (dist_total.mono l0 k _ h1) (dist_total.mono l1 k _ h2) h3
theorem dist_Far.calls (k : Nat) (A0 : Option Addr) (c0 : Nat) (l0 : List S96) (A1 : Option Addr) (c1 : Nat) (l1 : List S96) (r1 r2 r3 : Int) (w : World) (hr0 : Kd.C k96 w A0 l0.length l0) (hc0 : l0.length ≤ c0) (hr1 : Kd.C k96 w A1 l1.length l1) (hc1 : l1.length ≤ c1) (h : dist_Far.f k l0 l1 = some (r1, r2, r3)) :
    Calls Try.prog 15 #[.slice A0 l0.length c0, .slice A1 l1.length c1] w fun e w' => e = .returned (.tuple #[.agg #[.int .i64 r1, .int .i64 r2], .int .i64 r3]) ∧ Below w.heap.size w w' := by
  obtain ⟨ta, tb, h0, h1, h2, h3, h4⟩ := dist_Far.f_some h
  exact callsIn_wide.1 (far_main k A0 A1 c0 c1 l0 l1 w ta tb hr0 hc0 hr1 hc1 h0 h1 h2 h3.1 h3.2.1 h3.2.2.1 h3.2.2.2.1 h3.2.2.2.2.1 h3.2.2.2.2.2.1 h3.2.2.2.2.2.2.1 h3.2.2.2.2.2.2.2 _ r1 r2 r3 h4.symm (fun W' hb => ⟨rfl, hb⟩))
end Go.Proofs.Ytnlpdjklbjclpaa.PNoiseSays
