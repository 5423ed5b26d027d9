/- Lists of numbers, compared as Go's slices.Compare compares them. -/
import Derived.Sort.Statements
namespace Go.Proofs.Ytnlpdjklbjclpaa
open Go.Sort
set_option linter.unusedVariables false

def cmpL : List Int → List Int → Int
  | [], [] => 0
  | [], _ :: _ => -1
  | _ :: _, [] => 1
  | a :: as, b :: bs => if a < b then -1 else if b < a then 1 else cmpL as bs

theorem cmpL_refl : ∀ l, cmpL l l = 0
  | [] => rfl
  | a :: l => by simp [cmpL, Int.lt_irrefl, cmpL_refl l]
theorem cmpL_zero : ∀ l m, cmpL l m = 0 → l = m
  | [], [], _ => rfl
  | [], _ :: _, h => by simp [cmpL] at h
  | _ :: _, [], h => by simp [cmpL] at h
  | a :: l, b :: m, h => by
    unfold cmpL at h
    split at h
    · simp at h
    · split at h
      · simp at h
      · rw [show a = b from by omega, cmpL_zero l m h]
theorem cmpL_neg : ∀ l m, cmpL m l = - cmpL l m
  | [], [] => rfl
  | [], _ :: _ => rfl
  | _ :: _, [] => rfl
  | a :: l, b :: m => by
    unfold cmpL
    by_cases h1 : a < b
    · rw [if_neg (by omega), if_pos h1, if_pos h1]; rfl
    · by_cases h2 : b < a
      · rw [if_pos h2, if_neg h1, if_pos h2]
      · rw [if_neg h2, if_neg h1, if_neg h1, if_neg h2, cmpL_neg l m]
theorem cmpL_trans : ∀ x y z, cmpL x y < 0 → cmpL y z < 0 → cmpL x z < 0
  | [], [], z, h, k => by simp [cmpL] at h
  | [], b :: y, [], h, k => by simp [cmpL] at k
  | [], b :: y, c :: z, h, k => by simp [cmpL]
  | a :: x, [], z, h, k => by simp [cmpL] at h
  | a :: x, b :: y, [], h, k => by simp [cmpL] at k
  | a :: x, b :: y, c :: z, h, k => by
    unfold cmpL at h k ⊢
    by_cases h1 : a < b
    · by_cases k1 : b < c
      · rw [if_pos (by omega)]; omega
      · rw [if_neg k1] at k
        by_cases k2 : c < b
        · rw [if_pos k2] at k; simp at k
        · rw [if_pos (by omega)]; omega
    · rw [if_neg h1] at h
      by_cases h2 : b < a
      · rw [if_pos h2] at h; simp at h
      · rw [if_neg h2] at h
        by_cases k1 : b < c
        · rw [if_pos (by omega)]; omega
        · rw [if_neg k1] at k
          by_cases k2 : c < b
          · rw [if_pos k2] at k; simp at k
          · rw [if_neg k2] at k
            rw [if_neg (by omega), if_neg (by omega)]
            exact cmpL_trans x y z h k
theorem cmpL_ntrans (x y z : List Int) (h : ¬ cmpL x y < 0) (k : ¬ cmpL y z < 0) : ¬ cmpL x z < 0 := by
  intro q
  rcases Int.lt_trichotomy (cmpL y x) 0 with a | a | a
  · exact k (cmpL_trans y x z a q)
  · have := cmpL_zero y x a
    subst this
    exact k q
  · have := cmpL_neg y x
    omega
/-- By a key, slices.Compare is a strict weak order. -/
theorem cmpL_swo {β : Type} (key : β → List Int) : SWO (fun x y => decide (cmpL (key x) (key y) < 0)) where
  irrefl x := by simp [cmpL_refl]
  trans x y z h k := by
    have h := of_decide_eq_true h
    have k := of_decide_eq_true k
    exact decide_eq_true (cmpL_trans _ _ _ h k)
  ntrans x y z h k := by
    have h := of_decide_eq_false h
    have k := of_decide_eq_false k
    exact decide_eq_false (cmpL_ntrans _ _ _ h k)
end Go.Proofs.Ytnlpdjklbjclpaa
