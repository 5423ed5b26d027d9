import Derived.Sort.LotA
namespace Go.Sort
namespace St
set_option linter.unusedSectionVars false
set_option linter.unusedVariables false
variable {α : Type} [Inhabited α]

def swapRange : Nat → Nat → Nat → Array α → Array α
  | _, _, 0, d => d
  | a, b, n + 1, d => swapRange (a + 1) (b + 1) n (swp d a b)

def rotateLoop (m : Nat) : Nat → Nat → Nat → Array α → Array α
  | 0, _, _, d => d
  | f + 1, i, j, d => if i = j then swapRange (m - i) m i d else if j < i then rotateLoop m f (i - j) j (swapRange (m - i) m j d) else rotateLoop m f i (j - i) (swapRange (m - i) (m + j - i) i d)
def rotate (a m b : Nat) (d : Array α) : Array α := rotateLoop m (b - a) (m - a) (b - m) d

/-- The binary search: from i to j; the fuel is how far they are apart. -/
def bs (p : Nat → Bool) : Nat → Nat → Nat → Nat
  | 0, i, _ => i
  | f + 1, i, j => if i < j then (if p ((i + j) / 2) then bs p f ((i + j) / 2 + 1) j else bs p f i ((i + j) / 2)) else i

def bubbleUp : Nat → Nat → Array α → Array α
  | _, 0, d => d
  | k, n + 1, d => bubbleUp (k + 1) n (swp d k (k + 1))
def bubbleDown : Nat → Nat → Array α → Array α
  | _, 0, d => d
  | k, n + 1, d => bubbleDown (k - 1) n (swp d k (k - 1))

variable (lt : α → α → Bool)

def symMerge : Nat → Nat → Nat → Nat → Array α → Array α
  | 0, _, _, _, d => d
  | f + 1, a, m, b, d =>
    if m - a = 1 then bubbleUp a (bs (fun h => lt d[h]! d[a]!) (b - m) m b - 1 - a) d
    else if b - m = 1 then bubbleDown m (m - bs (fun h => !lt d[m]! d[h]!) (m - a) a m) d
    else
      let mid := (a + b) / 2
      let n := mid + m
      let start := if m > mid then n - b else a
      let r := if m > mid then mid else m
      let s := bs (fun c => !lt d[n - 1 - c]! d[c]!) (r - start) start r
      let e := n - s
      let d1 := if s < m ∧ m < e then rotate s m e d else d
      let d2 := if a < s ∧ s < mid then symMerge f a s mid d1 else d1
      if mid < e ∧ e < b then symMerge f mid e b d2 else d2

/-- 'for b <= n { insertionSort(data, a, b); a = b; b += 20 }; insertionSort(data, a, n)'. -/
def blocks (n : Nat) : Nat → Nat → Array α → Array α
  | 0, a, d => insertionSort lt d a n
  | f + 1, a, d => if a + 20 ≤ n then blocks n f (a + 20) (insertionSort lt d a (a + 20)) else insertionSort lt d a n

/-- One pass of merges. -/
def pass (size n : Nat) : Nat → Nat → Array α → Array α
  | 0, _, d => d
  | f + 1, a, d => if a + 2 * size ≤ n then pass size n f (a + 2 * size) (symMerge lt (2 * size) a (a + size) (a + 2 * size) d)
    else if a + size < n then symMerge lt (n - a) a (a + size) n d else d

def passes (n : Nat) : Nat → Nat → Array α → Array α
  | 0, _, d => d
  | f + 1, size, d => if size < n then passes n f (2 * size) (pass lt size n (n + 1) 0 d) else d

def stable (d : Array α) : Array α := passes lt d.size (d.size + 1) 20 (blocks lt d.size (d.size + 1) 0 d)

theorem blocks_go (n f a : Nat) (d : Array α) (h : a + 20 ≤ n) : blocks lt n (f + 1) a d = blocks lt n f (a + 20) (insertionSort lt d a (a + 20)) := by
  show (if a + 20 ≤ n then _ else _) = _
  rw [if_pos h]
theorem blocks_stop (n f a : Nat) (d : Array α) (h : ¬ a + 20 ≤ n) : blocks lt n f a d = insertionSort lt d a n := by
  cases f with
  | zero => rfl
  | succ f =>
    show (if a + 20 ≤ n then _ else _) = _
    rw [if_neg h]
theorem pass_go (size n f a : Nat) (d : Array α) (h : a + 2 * size ≤ n) : pass lt size n (f + 1) a d = pass lt size n f (a + 2 * size) (symMerge lt (2 * size) a (a + size) (a + 2 * size) d) := by
  show (if a + 2 * size ≤ n then _ else _) = _
  rw [if_pos h]
theorem pass_last (size n f a : Nat) (d : Array α) (h : ¬ a + 2 * size ≤ n) (h2 : a + size < n) : pass lt size n (f + 1) a d = symMerge lt (n - a) a (a + size) n d := by
  show (if a + 2 * size ≤ n then _ else if a + size < n then _ else _) = _
  rw [if_neg h, if_pos h2]
theorem pass_stop (size n f a : Nat) (d : Array α) (h : ¬ a + 2 * size ≤ n) (h2 : ¬ a + size < n) : pass lt size n (f + 1) a d = d := by
  show (if a + 2 * size ≤ n then _ else if a + size < n then _ else _) = _
  rw [if_neg h, if_neg h2]
theorem passes_go (n f size : Nat) (d : Array α) (h : size < n) : passes lt n (f + 1) size d = passes lt n f (2 * size) (pass lt size n (n + 1) 0 d) := by
  show (if size < n then _ else _) = _
  rw [if_pos h]
theorem passes_stop (n f size : Nat) (d : Array α) (h : ¬ size < n) : passes lt n f size d = d := by
  cases f with
  | zero => rfl
  | succ f =>
    show (if size < n then _ else _) = _
    rw [if_neg h]

/-! ### lists -/
theorem size_swp' (d : Array α) (i j : Nat) : (swp d i j).size = d.size := by simp [swp]

theorem size_swapRange : ∀ (a b n : Nat) (d : Array α), (swapRange a b n d).size = d.size
  | _, _, 0, _ => rfl
  | a, b, n + 1, d => (size_swapRange (a + 1) (b + 1) n (swp d a b)).trans (size_swp' d a b)
theorem size_rotateLoop (m : Nat) : ∀ (f i j : Nat) (d : Array α), (rotateLoop m f i j d).size = d.size
  | 0, _, _, _ => rfl
  | f + 1, i, j, d => by
    unfold rotateLoop
    split
    · exact size_swapRange ..
    · split
      · exact (size_rotateLoop m f _ _ _).trans (size_swapRange ..)
      · exact (size_rotateLoop m f _ _ _).trans (size_swapRange ..)
theorem size_bubbleUp : ∀ (k n : Nat) (d : Array α), (bubbleUp k n d).size = d.size
  | _, 0, _ => rfl
  | k, n + 1, d => (size_bubbleUp (k + 1) n _).trans (size_swp' ..)
theorem size_bubbleDown : ∀ (k n : Nat) (d : Array α), (bubbleDown k n d).size = d.size
  | _, 0, _ => rfl
  | k, n + 1, d => (size_bubbleDown (k - 1) n _).trans (size_swp' ..)
theorem size_symMerge (lt : α → α → Bool) : ∀ (f a m b : Nat) (d : Array α), (symMerge lt f a m b d).size = d.size
  | 0, _, _, _, _ => rfl
  | f + 1, a, m, b, d => by
    unfold symMerge
    split
    · exact size_bubbleUp ..
    · split
      · exact size_bubbleDown ..
      · simp only
        generalize bs _ _ _ _ = s
        have h1 : ∀ q, (if s < m ∧ m < q then rotate s m q d else d).size = d.size := fun q => by
          split
          · exact size_rotateLoop ..
          · rfl
        generalize (a + b) / 2 + m - s = e
        have h1 := h1 e
        generalize (if s < m ∧ m < e then rotate s m e d else d) = d1 at h1 ⊢
        have h2 : (if a < s ∧ s < (a + b) / 2 then symMerge lt f a s ((a + b) / 2) d1 else d1).size = d.size := by
          split
          · exact (size_symMerge lt f _ _ _ _).trans h1
          · exact h1
        generalize (if a < s ∧ s < (a + b) / 2 then symMerge lt f a s ((a + b) / 2) d1 else d1) = d2 at h2 ⊢
        split
        · exact (size_symMerge lt f _ _ _ _).trans h2
        · exact h2

theorem size_insInner (lt : α → α → Bool) (a : Nat) : ∀ (j : Nat) (d : Array α), (insInner lt a j d).size = d.size
  | 0, _ => rfl
  | j + 1, d => by
    unfold insInner
    split
    · exact (size_insInner lt a j _).trans (size_swp' ..)
    · rfl
theorem size_insOuter (lt : α → α → Bool) (a b : Nat) : ∀ (n i : Nat) (d : Array α), b - i ≤ n → (insOuter lt a b i d).size = d.size
  | 0, i, d, h => by
    unfold insOuter
    rw [if_neg (by omega)]
  | n + 1, i, d, h => by
    unfold insOuter
    split
    · exact (size_insOuter lt a b n (i + 1) _ (by omega)).trans (size_insInner ..)
    · rfl
theorem size_insertion (lt : α → α → Bool) (d : Array α) (a b : Nat) : (insertionSort lt d a b).size = d.size := size_insOuter lt a b (b - (a + 1)) (a + 1) d (Nat.le_refl _)

theorem getD_at (d : Array α) (A : List α) (x : α) (B : List α) (h : d.toList = A ++ x :: B) : d[A.length]! = x := by
  have hl : A.length < d.size := by rw [← Array.length_toList, h]; simp
  rw [getElem!_pos d A.length hl, ← Array.getElem_toList]
  simp [h]

theorem swp_list (d : Array α) (A M B : List α) (x y : α) (h : d.toList = A ++ x :: (M ++ y :: B)) :
    (swp d A.length (A.length + 1 + M.length)).toList = A ++ y :: (M ++ x :: B) := by
  have h1 : d[A.length]! = x := getD_at d A x _ h
  have h2 : d[A.length + 1 + M.length]! = y := by
    have := getD_at d (A ++ x :: M) y B (by rw [h]; simp)
    rw [show (A ++ x :: M).length = A.length + 1 + M.length from by simp; omega] at this
    exact this
  unfold swp
  rw [h1, h2, Array.toList_setIfInBounds, Array.toList_setIfInBounds, h]
  rw [List.set_append_right _ _ (Nat.le_refl _)]
  simp only [Nat.sub_self, List.set_cons_zero]
  rw [List.set_append_right _ _ (by omega)]
  rw [show A.length + 1 + M.length - A.length = M.length + 1 from by omega]
  simp only [List.set_cons_succ]
  rw [List.set_append_right _ _ (Nat.le_refl _)]
  simp

theorem swp_list_rev (d : Array α) (A M B : List α) (x y : α) (h : d.toList = A ++ x :: (M ++ y :: B)) :
    (swp d (A.length + 1 + M.length) A.length).toList = A ++ y :: (M ++ x :: B) := by
  have h1 : d[A.length]! = x := getD_at d A x _ h
  have h2 : d[A.length + 1 + M.length]! = y := by
    have := getD_at d (A ++ x :: M) y B (by rw [h]; simp)
    rw [show (A ++ x :: M).length = A.length + 1 + M.length from by simp; omega] at this
    exact this
  unfold swp
  rw [h1, h2, Array.toList_setIfInBounds, Array.toList_setIfInBounds, h]
  rw [List.set_append_right _ _ (by omega)]
  rw [show A.length + 1 + M.length - A.length = M.length + 1 from by omega]
  simp only [List.set_cons_succ]
  rw [List.set_append_right _ _ (Nat.le_refl _)]
  rw [List.set_append_right _ _ (Nat.le_refl _)]
  simp

theorem swapRange_list : ∀ (U V A M B : List α) (d : Array α), U.length = V.length → d.toList = A ++ (U ++ (M ++ (V ++ B))) →
    (swapRange A.length (A.length + U.length + M.length) U.length d).toList = A ++ (V ++ (M ++ (U ++ B)))
  | [], V, A, M, B, d, hl, h => by
    have : V = [] := List.eq_nil_of_length_eq_zero hl.symm
    subst this
    simpa [swapRange] using h
  | x :: U, [], A, M, B, d, hl, h => by simp at hl
  | x :: U, y :: V, A, M, B, d, hl, h => by
    have hl' : U.length = V.length := by simpa using hl
    have hs := swp_list d A (U ++ M) (V ++ B) x y (by rw [h]; simp)
    have e1 : A.length + 1 + (U ++ M).length = A.length + (x :: U).length + M.length := by simp; omega
    rw [e1] at hs
    have ih := swapRange_list U V (A ++ [y]) (M ++ [x]) B (swp d A.length (A.length + (x :: U).length + M.length)) hl' (by rw [hs]; simp)
    have e2 : (A ++ [y]).length = A.length + 1 := by simp
    have e3 : (A ++ [y]).length + U.length + (M ++ [x]).length = A.length + (x :: U).length + M.length + 1 := by simp; omega
    rw [e3, e2] at ih
    show (swapRange (A.length + 1) (A.length + (x :: U).length + M.length + 1) U.length (swp d A.length (A.length + (x :: U).length + M.length))).toList = _
    rw [ih]
    simp

theorem rotateLoop_list : ∀ (f : Nat) (U V A B : List α) (d : Array α), U ≠ [] → V ≠ [] → U.length + V.length ≤ f + 1 → d.toList = A ++ (U ++ (V ++ B)) →
    (rotateLoop (A.length + U.length) (f + 1) U.length V.length d).toList = A ++ (V ++ (U ++ B)) := by
  intro f
  induction f using Nat.strongRecOn with
  | _ f ih =>
    intro U V A B d hU hV hf h
    have hu : 0 < U.length := List.length_pos_iff.2 hU
    have hv : 0 < V.length := List.length_pos_iff.2 hV
    unfold rotateLoop
    split
    · rename_i e
      have := swapRange_list U V A [] B d e (by simpa using h)
      rw [show A.length + U.length - U.length = A.length from by omega]
      simpa using this
    · rename_i hne
      split
      · rename_i hlt
        have hs : U = U.take V.length ++ U.drop V.length := (List.take_append_drop _ _).symm
        have l1 : (U.take V.length).length = V.length := by rw [List.length_take]; omega
        have l2 : (U.drop V.length).length = U.length - V.length := List.length_drop
        generalize U.take V.length = U1 at hs l1
        generalize U.drop V.length = U2 at hs l2
        subst hs
        have e0 : (U1 ++ U2).length = U1.length + U2.length := by simp
        have sw := swapRange_list U1 V A U2 B d l1 (by rw [h]; simp)
        rw [show A.length + (U1 ++ U2).length - (U1 ++ U2).length = A.length from by omega, show V.length = U1.length from l1.symm, show A.length + (U1 ++ U2).length = A.length + U1.length + U2.length from by simp; omega]
        obtain ⟨f', rfl⟩ : ∃ f', f = f' + 1 := ⟨f - 1, by omega⟩
        have := ih f' (by omega) U2 U1 (A ++ V) B (swapRange A.length (A.length + U1.length + U2.length) U1.length d) (fun e => by have q := congrArg List.length e; simp only [List.length_nil] at q; omega) (fun e => by have q := congrArg List.length e; simp only [List.length_nil] at q; omega) (by omega) (by rw [sw]; simp)
        rw [show (A ++ V).length + U2.length = A.length + U1.length + U2.length from by simp; omega] at this
        rw [show (U1 ++ U2).length - U1.length = U2.length from by simp, this]
        simp
      · rename_i hge
        have hlt : U.length < V.length := by omega
        have hs : V = V.take (V.length - U.length) ++ V.drop (V.length - U.length) := (List.take_append_drop _ _).symm
        have l1 : (V.take (V.length - U.length)).length = V.length - U.length := by rw [List.length_take]; omega
        have l2 : (V.drop (V.length - U.length)).length = U.length := by rw [List.length_drop]; omega
        generalize V.take (V.length - U.length) = V1 at hs l1
        generalize V.drop (V.length - U.length) = V2 at hs l2
        subst hs
        have sw := swapRange_list U V2 A V1 B d l2.symm (by rw [h]; simp)
        rw [show A.length + U.length - U.length = A.length from by omega, show A.length + U.length + (V1 ++ V2).length - U.length = A.length + U.length + V1.length from by simp; omega]
        obtain ⟨f', rfl⟩ : ∃ f', f = f' + 1 := ⟨f - 1, by omega⟩
        have e0 : (V1 ++ V2).length = V1.length + V2.length := by simp
        have := ih f' (by omega) V2 V1 A (U ++ B) (swapRange A.length (A.length + U.length + V1.length) U.length d) (fun e => by have q := congrArg List.length e; simp only [List.length_nil] at q; omega) (fun e => by have q := congrArg List.length e; simp only [List.length_nil] at q; omega) (by omega) (by rw [sw])
        rw [l2] at this
        rw [show (V1 ++ V2).length - U.length = V1.length from by omega, this]
        simp

theorem bubbleUp_list : ∀ (U A B : List α) (x : α) (d : Array α), d.toList = A ++ x :: (U ++ B) → (bubbleUp A.length U.length d).toList = A ++ (U ++ x :: B)
  | [], A, B, x, d, h => by simpa [bubbleUp] using h
  | y :: U, A, B, x, d, h => by
    have hs := swp_list d A [] (U ++ B) x y (by simpa using h)
    have ih := bubbleUp_list U (A ++ [y]) B x (swp d A.length (A.length + 1)) (by simpa using hs)
    show (bubbleUp (A.length + 1) U.length (swp d A.length (A.length + 1))).toList = _
    rw [show A.length + 1 = (A ++ [y]).length from by simp] at *
    simpa using ih

theorem bubbleDown_list : ∀ (n : Nat) (U A B : List α) (x : α) (d : Array α), U.length = n → d.toList = A ++ (U ++ x :: B) → (bubbleDown (A.length + n) n d).toList = A ++ x :: (U ++ B)
  | 0, U, A, B, x, d, hn, h => by
    have : U = [] := List.eq_nil_of_length_eq_zero hn
    subst this
    simpa [bubbleDown] using h
  | n + 1, U, A, B, x, d, hn, h => by
    obtain ⟨V, y, rfl⟩ : ∃ V y, U = V ++ [y] := ⟨U.dropLast, U.getLast (by intro e; subst e; simp at hn), (List.dropLast_concat_getLast _).symm⟩
    have hv : V.length = n := by simpa using hn
    have hs := swp_list_rev d (A ++ V) [] B y x (by rw [h]; simp)
    simp only [List.length_nil, Nat.add_zero] at hs
    rw [show (A ++ V).length = A.length + n from by simp [hv]] at hs
    have ih := bubbleDown_list n V A (y :: B) x (swp d (A.length + n + 1) (A.length + n)) hv (by rw [hs]; simp)
    show (bubbleDown (A.length + (n + 1) - 1) n (swp d (A.length + (n + 1)) (A.length + (n + 1) - 1))).toList = _
    rw [show A.length + (n + 1) - 1 = A.length + n from by omega, show A.length + (n + 1) = A.length + n + 1 from by omega, ih]
    simp

theorem bs_yes (p : Nat → Bool) (f i j : Nat) (h : i < j) (hp : p ((i + j) / 2) = true) : bs p (f + 1) i j = bs p f ((i + j) / 2 + 1) j := by
  show (if i < j then _ else _) = _
  rw [if_pos h, if_pos hp]
theorem bs_no (p : Nat → Bool) (f i j : Nat) (h : i < j) (hp : p ((i + j) / 2) = false) : bs p (f + 1) i j = bs p f i ((i + j) / 2) := by
  show (if i < j then _ else _) = _
  rw [if_pos h, if_neg (by rw [hp]; simp)]
theorem bs_stop (p : Nat → Bool) (f i j : Nat) (h : ¬ i < j) : bs p f i j = i := by
  cases f with
  | zero => rfl
  | succ f =>
    show (if i < j then _ else _) = _
    rw [if_neg h]
theorem bs_spec (p : Nat → Bool) : ∀ (f i j : Nat), i ≤ j → j - i ≤ f → i ≤ bs p f i j ∧ bs p f i j ≤ j ∧ (bs p f i j = i ∨ p (bs p f i j - 1) = true) ∧ (bs p f i j = j ∨ p (bs p f i j) = false)
  | 0, i, j, h, hf => by
    have : i = j := by omega
    subst this
    simp [bs]
  | f + 1, i, j, h, hf => by
    unfold bs
    split
    · rename_i hlt
      have hm : i ≤ (i + j) / 2 ∧ (i + j) / 2 < j := by omega
      split
      · rename_i hp
        obtain ⟨h1, h2, h3, h4⟩ := bs_spec p f ((i + j) / 2 + 1) j (by omega) (by omega)
        refine ⟨by omega, h2, ?_, h4⟩
        rcases h3 with h3 | h3
        · exact .inr (by rw [h3]; simpa using hp)
        · exact .inr h3
      · rename_i hp
        obtain ⟨h1, h2, h3, h4⟩ := bs_spec p f i ((i + j) / 2) (by omega) (by omega)
        refine ⟨h1, by omega, h3, ?_⟩
        rcases h4 with h4 | h4
        · exact .inr (by rw [h4]; simpa using hp)
        · exact .inr h4
    · exact ⟨Nat.le_refl _, h, .inl rfl, .inl (by omega)⟩

/-! ### order -/
def Asc (l : List α) : Prop := l.Pairwise fun x y => lt y x = false
variable {lt}
theorem le_of_lt (hS : SWO lt) {x y : α} (h : lt x y = true) : lt y x = false := by
  cases e : lt y x with
  | false => rfl
  | true =>
    have := hS.trans _ _ _ h e
    rw [hS.irrefl] at this
    simp at this
theorem le_trans' (hS : SWO lt) {x y z : α} (h : lt y x = false) (k : lt z y = false) : lt z x = false := hS.ntrans _ _ _ k h

/-- What stands ahead of the last of an ascending list is at most it. -/
theorem asc_last (hS : SWO lt) {U : List α} {x : α} (h : Asc lt (U ++ [x])) : ∀ z ∈ U ++ [x], lt x z = false := by
  intro z hz
  rcases List.mem_append.1 hz with hz | hz
  · exact (List.pairwise_append.1 h).2.2 z hz x (by simp)
  · rw [List.mem_singleton.1 hz]; exact hS.irrefl _
theorem asc_head (hS : SWO lt) {U : List α} {x : α} (h : Asc lt (x :: U)) : ∀ z ∈ x :: U, lt z x = false := by
  intro z hz
  rcases List.mem_cons.1 hz with rfl | hz
  · exact hS.irrefl _
  · exact (List.pairwise_cons.1 h).1 z hz

theorem split_at {l : List α} {n : Nat} (h : n ≤ l.length) : ∃ l1 l2, l = l1 ++ l2 ∧ l1.length = n := ⟨l.take n, l.drop n, (List.take_append_drop _ _).symm, by rw [List.length_take]; omega⟩

theorem getD_last (d : Array α) (A : List α) (U : List α) (B : List α) (h : d.toList = A ++ (U ++ B)) (hU : U ≠ []) : ∃ V x, U = V ++ [x] ∧ d[A.length + U.length - 1]! = x := by
  obtain ⟨V, x, rfl⟩ : ∃ V y, U = V ++ [y] := ⟨U.dropLast, U.getLast hU, (List.dropLast_concat_getLast _).symm⟩
  refine ⟨V, x, rfl, ?_⟩
  have := getD_at d (A ++ V) x B (by rw [h]; simp)
  rw [show (A ++ V).length = A.length + (V ++ [x]).length - 1 from by simp] at this
  exact this
theorem getD_first (d : Array α) (A : List α) (U : List α) (B : List α) (h : d.toList = A ++ (U ++ B)) (hU : U ≠ []) : ∃ V x, U = x :: V ∧ d[A.length]! = x := by
  obtain ⟨x, V, rfl⟩ := List.exists_cons_of_ne_nil hU
  exact ⟨V, x, rfl, getD_at d A x (V ++ B) (by rw [h]; simp)⟩

theorem symMerge_list (hS : SWO lt) : ∀ (f : Nat) (U V A B : List α) (d : Array α), U ≠ [] → V ≠ [] → U.length + V.length ≤ f → d.toList = A ++ (U ++ (V ++ B)) → Asc lt U → Asc lt V →
    ∃ S, (symMerge lt f A.length (A.length + U.length) (A.length + U.length + V.length) d).toList = A ++ (S ++ B) ∧ S.Perm (U ++ V) ∧ Asc lt S := by
  intro f
  induction f with
  | zero => intro U V A B d hU hV hf; have := List.length_pos_iff.2 hU; omega
  | succ f ih =>
    intro U V A B d hU hV hf h aU aV
    have hu : 0 < U.length := List.length_pos_iff.2 hU
    have hv : 0 < V.length := List.length_pos_iff.2 hV
    unfold symMerge
    split
    · -- one element ahead
      rename_i h1
      have hu1 : U.length = 1 := by omega
      obtain ⟨x, rfl⟩ := List.length_eq_one_iff.1 hu1
      have hx : d[A.length]! = x := getD_at d A x (V ++ B) (by rw [h]; simp)
      rw [hx]
      simp only [List.length_singleton]
      obtain ⟨b1, b2, b3, b4⟩ := bs_spec (fun q => lt d[q]! x) (A.length + 1 + V.length - (A.length + 1)) (A.length + 1) (A.length + 1 + V.length) (by omega) (Nat.le_refl _)
      generalize bs (fun q => lt d[q]! x) (A.length + 1 + V.length - (A.length + 1)) (A.length + 1) (A.length + 1 + V.length) = i at b1 b2 b3 b4 ⊢
      obtain ⟨V1, V2, rfl, hl⟩ := split_at (l := V) (n := i - (A.length + 1)) (by omega)
      have := bubbleUp_list V1 A (V2 ++ B) x d (by rw [h]; simp)
      rw [show i - 1 - A.length = V1.length from by omega, this]
      refine ⟨V1 ++ x :: V2, by simp, ?_, ?_⟩
      · simp only [List.singleton_append]; exact List.perm_middle
      · have aV1 := (List.pairwise_append.1 aV)
        refine List.pairwise_append.2 ⟨aV1.1, List.pairwise_cons.2 ⟨?_, aV1.2.1⟩, ?_⟩
        · intro z hz
          rcases b4 with b4 | b4
          · have : V2 = [] := by
              have : (V1 ++ V2).length = V1.length + V2.length := by simp
              exact List.eq_nil_of_length_eq_zero (by omega)
            subst this; simp at hz
          · have hV2 : V2 ≠ [] := by intro e; subst e; simp at hz
            obtain ⟨W, y, rfl, hy⟩ := getD_first d (A ++ x :: V1) V2 B (by rw [h]; simp) hV2
            rw [show (A ++ x :: V1).length = i from by simp; omega] at hy
            simp only [hy] at b4
            exact le_trans' hS b4 (asc_head hS aV1.2.1 z hz)
        · intro z hz y hy
          rcases List.mem_cons.1 hy with rfl | hy
          · rcases b3 with b3 | b3
            · have : V1 = [] := List.eq_nil_of_length_eq_zero (by omega)
              subst this; simp at hz
            · have hV1 : V1 ≠ [] := by intro e; subst e; simp at hz
              obtain ⟨W, q, rfl, hq⟩ := getD_last d (A ++ [y]) V1 (V2 ++ B) (by rw [h]; simp) hV1
              rw [show (A ++ [y]).length + (W ++ [q]).length - 1 = i - 1 from by simp at hl ⊢; omega] at hq
              simp only [hq] at b3
              exact le_trans' hS (asc_last hS aV1.1 z hz) (le_of_lt hS b3)
          · exact aV1.2.2 z hz y hy
    · rename_i h1
      split
      · -- one element behind
        rename_i h2
        have hv1 : V.length = 1 := by omega
        obtain ⟨x, rfl⟩ := List.length_eq_one_iff.1 hv1
        have hx : d[A.length + U.length]! = x := by
          have := getD_at d (A ++ U) x B (by rw [h]; simp)
          rwa [show (A ++ U).length = A.length + U.length from by simp] at this
        rw [hx]
        obtain ⟨b1, b2, b3, b4⟩ := bs_spec (fun q => !lt x d[q]!) (A.length + U.length - A.length) A.length (A.length + U.length) (by omega) (Nat.le_refl _)
        generalize bs (fun q => !lt x d[q]!) (A.length + U.length - A.length) A.length (A.length + U.length) = i at b1 b2 b3 b4 ⊢
        obtain ⟨U1, U2, rfl, hl⟩ := split_at (l := U) (n := i - A.length) (by omega)
        have e0 : (U1 ++ U2).length = U1.length + U2.length := by simp
        have := bubbleDown_list U2.length U2 (A ++ U1) B x d rfl (by rw [h]; simp)
        rw [show (A ++ U1).length + U2.length = A.length + (U1 ++ U2).length from by simp; omega] at this
        rw [show A.length + (U1 ++ U2).length - i = U2.length from by omega, this]
        refine ⟨U1 ++ x :: U2, by simp, ?_, ?_⟩
        · rw [List.append_assoc]
          exact List.Perm.append_left U1 (by simpa using (List.perm_append_comm (l₁ := [x]) (l₂ := U2)))
        · have aU1 := (List.pairwise_append.1 aU)
          refine List.pairwise_append.2 ⟨aU1.1, List.pairwise_cons.2 ⟨?_, aU1.2.1⟩, ?_⟩
          · intro z hz
            rcases b4 with b4 | b4
            · have : U2 = [] := List.eq_nil_of_length_eq_zero (by omega)
              subst this; simp at hz
            · have hU2 : U2 ≠ [] := by intro e; subst e; simp at hz
              obtain ⟨W, y, rfl, hy⟩ := getD_first d (A ++ U1) U2 ([x] ++ B) (by rw [h]; simp) hU2
              rw [show (A ++ U1).length = i from by simp; omega] at hy
              simp only [hy, Bool.not_eq_false'] at b4
              exact le_trans' hS (le_of_lt hS b4) (asc_head hS aU1.2.1 z hz)
          · intro z hz y hy
            rcases List.mem_cons.1 hy with rfl | hy
            · rcases b3 with b3 | b3
              · have : U1 = [] := List.eq_nil_of_length_eq_zero (by omega)
                subst this; simp at hz
              · have hU1 : U1 ≠ [] := by intro e; subst e; simp at hz
                obtain ⟨W, q, rfl, hq⟩ := getD_last d A U1 (U2 ++ [y] ++ B) (by rw [h]; simp) hU1
                rw [show A.length + (W ++ [q]).length - 1 = i - 1 from by simp at hl ⊢; omega] at hq
                simp only [hq, Bool.not_eq_true'] at b3
                exact le_trans' hS (asc_last hS aU1.1 z hz) b3
            · exact aU1.2.2 z hz y hy
      · -- both halves have two elements or more
        rename_i h2
        have hu2 : 2 ≤ U.length := by omega
        have hv2 : 2 ≤ V.length := by omega
        generalize hmid : (A.length + (A.length + U.length + V.length)) / 2 = mid
        have hm1 : A.length < mid := by omega
        have hm2 : mid < A.length + U.length + V.length := by omega
        have hs0 : (if A.length + U.length > mid then mid + (A.length + U.length) - (A.length + U.length + V.length) else A.length) ≤ (if A.length + U.length > mid then mid else A.length + U.length) := by split <;> omega
        obtain ⟨b1, b2, b3, b4⟩ := bs_spec (fun c => !lt d[mid + (A.length + U.length) - 1 - c]! d[c]!) ((if A.length + U.length > mid then mid else A.length + U.length) - (if A.length + U.length > mid then mid + (A.length + U.length) - (A.length + U.length + V.length) else A.length)) (if A.length + U.length > mid then mid + (A.length + U.length) - (A.length + U.length + V.length) else A.length) (if A.length + U.length > mid then mid else A.length + U.length) hs0 (Nat.le_refl _)
        simp only
        generalize hsv : bs (fun c => !lt d[mid + (A.length + U.length) - 1 - c]! d[c]!) ((if A.length + U.length > mid then mid else A.length + U.length) - (if A.length + U.length > mid then mid + (A.length + U.length) - (A.length + U.length + V.length) else A.length)) (if A.length + U.length > mid then mid + (A.length + U.length) - (A.length + U.length + V.length) else A.length) (if A.length + U.length > mid then mid else A.length + U.length) = s at b1 b2 b3 b4 ⊢
        clear hsv
        have hsA : A.length ≤ s := by split at b1 <;> omega
        have hsM : s ≤ A.length + U.length := by split at b2 <;> omega
        have hsMid : s ≤ mid := by split at b2 <;> omega
        have heB : mid + (A.length + U.length) - s ≤ A.length + U.length + V.length := by split at b1 <;> omega
        obtain ⟨e, he⟩ : ∃ e, mid + (A.length + U.length) - s = e := ⟨_, rfl⟩
        rw [he]
        obtain ⟨U1, U2, rfl, hl1⟩ := split_at (l := U) (n := s - A.length) (by omega)
        have eU : (U1 ++ U2).length = U1.length + U2.length := by simp
        obtain ⟨V1, V2, rfl, hl2⟩ := split_at (l := V) (n := e - (A.length + (U1 ++ U2).length)) (by omega)
        have eV : (V1 ++ V2).length = V1.length + V2.length := by simp
        have aU1 := List.pairwise_append.1 aU
        have aV1 := List.pairwise_append.1 aV
        -- what lies behind: V1 is below U2, U1 is at most V2
        have hVU : ∀ z ∈ V1, ∀ y ∈ U2, lt y z = false := by
          intro z hz y hy
          have hV1 : V1 ≠ [] := by intro q; subst q; simp at hz
          have hU2 : U2 ≠ [] := by intro q; subst q; simp at hy
          have p1 := List.length_pos_iff.2 hV1
          have p2 := List.length_pos_iff.2 hU2
          obtain ⟨W1, q1, rfl, k1⟩ := getD_last d (A ++ (U1 ++ U2)) V1 (V2 ++ B) (by rw [h]; simp) hV1
          obtain ⟨W2, q2, rfl, k2⟩ := getD_first d (A ++ U1) U2 (W1 ++ [q1] ++ V2 ++ B) (by rw [h]; simp) hU2
          rcases b4 with b4 | b4
          · exfalso
            split at b4
            · simp at *; omega
            · simp at *; omega
          · rw [show (A ++ U1).length = s from by simp; omega] at k2
            rw [show (A ++ (U1 ++ q2 :: W2)).length + (W1 ++ [q1]).length - 1 = mid + (A.length + (U1 ++ q2 :: W2).length) - 1 - s from by simp at *; omega] at k1
            simp only [k1, k2, Bool.not_eq_false'] at b4
            exact le_trans' hS (le_trans' hS (asc_last hS aV1.1 z hz) (le_of_lt hS b4)) (asc_head hS aU1.2.1 y hy)
        have hUV : ∀ z ∈ U1, ∀ y ∈ V2, lt y z = false := by
          intro z hz y hy
          have hU1 : U1 ≠ [] := by intro q; subst q; simp at hz
          have hV2 : V2 ≠ [] := by intro q; subst q; simp at hy
          have p1 := List.length_pos_iff.2 hU1
          have p2 := List.length_pos_iff.2 hV2
          obtain ⟨W1, q1, rfl, k1⟩ := getD_last d A U1 (U2 ++ (V1 ++ V2) ++ B) (by rw [h]; simp) hU1
          obtain ⟨W2, q2, rfl, k2⟩ := getD_first d (A ++ (W1 ++ [q1] ++ U2) ++ V1) V2 B (by rw [h]; simp) hV2
          rcases b3 with b3 | b3
          · exfalso
            split at b3
            · simp at *; omega
            · simp at *; omega
          · rw [show A.length + (W1 ++ [q1]).length - 1 = s - 1 from by simp at *; omega] at k1
            rw [show (A ++ (W1 ++ [q1] ++ U2) ++ V1).length = mid + (A.length + (W1 ++ [q1] ++ U2).length) - 1 - (s - 1) from by simp at *; omega] at k2
            simp only [k1, k2, Bool.not_eq_true'] at b3
            exact le_trans' hS (le_trans' hS (asc_last hS aU1.1 z hz) b3) (asc_head hS aV1.2.1 y hy)
        -- behind the rotation
        have hd1 : (if s < A.length + (U1 ++ U2).length ∧ A.length + (U1 ++ U2).length < e then rotate s (A.length + (U1 ++ U2).length) e d else d).toList = A ++ (U1 ++ (V1 ++ (U2 ++ (V2 ++ B)))) := by
          split
          · rename_i hc
            have hU2 : U2 ≠ [] := by intro q; subst q; simp at *; omega
            have hV1 : V1 ≠ [] := by intro q; subst q; simp at *; omega
            obtain ⟨f', hf'⟩ : ∃ f', e - s = f' + 1 := ⟨e - s - 1, by omega⟩
            have := rotateLoop_list f' U2 V1 (A ++ U1) (V2 ++ B) d hU2 hV1 (by omega) (by rw [h]; simp)
            unfold rotate
            rw [hf', show A.length + (U1 ++ U2).length - s = U2.length from by omega, show e - (A.length + (U1 ++ U2).length) = V1.length from by omega, show A.length + (U1 ++ U2).length = (A ++ U1).length + U2.length from by simp; omega, this]
            simp
          · rename_i hc
            rw [h]
            by_cases q : U2 = []
            · subst q; simp
            · by_cases q2 : V1 = []
              · subst q2; simp
              · have := List.length_pos_iff.2 q
                have := List.length_pos_iff.2 q2
                exfalso; exact hc ⟨by omega, by omega⟩
        generalize (if s < A.length + (U1 ++ U2).length ∧ A.length + (U1 ++ U2).length < e then rotate s (A.length + (U1 ++ U2).length) e d else d) = d1 at hd1 ⊢
        have hd2 : ∃ S1, (if A.length < s ∧ s < mid then symMerge lt f A.length s mid d1 else d1).toList = A ++ (S1 ++ (U2 ++ (V2 ++ B))) ∧ S1.Perm (U1 ++ V1) ∧ Asc lt S1 := by
          split
          · rename_i hc
            have hU1 : U1 ≠ [] := by intro q; subst q; simp at *; omega
            have hV1 : V1 ≠ [] := by intro q; subst q; simp at *; omega
            have := ih U1 V1 A (U2 ++ (V2 ++ B)) d1 hU1 hV1 (by omega) hd1 aU1.1 aV1.1
            rw [show A.length + U1.length = s from by omega, show s + V1.length = mid from by omega] at this
            exact this
          · rename_i hc
            refine ⟨U1 ++ V1, by rw [hd1]; simp, .rfl, ?_⟩
            by_cases q : U1 = []
            · subst q; rw [List.nil_append]; exact aV1.1
            · by_cases q2 : V1 = []
              · subst q2; rw [List.append_nil]; exact aU1.1
              · have := List.length_pos_iff.2 q
                have := List.length_pos_iff.2 q2
                exfalso; exact hc ⟨by omega, by omega⟩
        obtain ⟨S1, hd2, pS1, aS1⟩ := hd2
        generalize (if A.length < s ∧ s < mid then symMerge lt f A.length s mid d1 else d1) = d2 at hd2 ⊢
        have lS1 : S1.length = U1.length + V1.length := by simpa using pS1.length_eq
        have hd3 : ∃ S2, (if mid < e ∧ e < A.length + (U1 ++ U2).length + (V1 ++ V2).length then symMerge lt f mid e (A.length + (U1 ++ U2).length + (V1 ++ V2).length) d2 else d2).toList = A ++ (S1 ++ (S2 ++ B)) ∧ S2.Perm (U2 ++ V2) ∧ Asc lt S2 := by
          split
          · rename_i hc
            have hU2 : U2 ≠ [] := by intro q; subst q; simp at *; omega
            have hV2 : V2 ≠ [] := by intro q; subst q; simp at *; omega
            obtain ⟨S2, k1, k2, k3⟩ := ih U2 V2 (A ++ S1) B d2 hU2 hV2 (by omega) (by rw [hd2]; simp) aU1.2.1 aV1.2.1
            rw [show (A ++ S1).length = mid from by simp; omega, show mid + U2.length = e from by omega, show e + V2.length = A.length + (U1 ++ U2).length + (V1 ++ V2).length from by omega] at k1
            exact ⟨S2, by rw [k1]; simp, k2, k3⟩
          · rename_i hc
            refine ⟨U2 ++ V2, by rw [hd2]; simp, .rfl, ?_⟩
            by_cases q : U2 = []
            · subst q; rw [List.nil_append]; exact aV1.2.1
            · by_cases q2 : V2 = []
              · subst q2; rw [List.append_nil]; exact aU1.2.1
              · have := List.length_pos_iff.2 q
                have := List.length_pos_iff.2 q2
                exfalso; exact hc ⟨by omega, by omega⟩
        obtain ⟨S2, hd3, pS2, aS2⟩ := hd3
        refine ⟨S1 ++ S2, by rw [hd3]; simp, ?_, ?_⟩
        · refine (List.Perm.append pS1 pS2).trans ?_
          rw [List.append_assoc, List.append_assoc]
          refine List.Perm.append_left U1 ?_
          rw [← List.append_assoc, ← List.append_assoc]
          exact List.Perm.append_right V2 List.perm_append_comm
        · refine List.pairwise_append.2 ⟨aS1, aS2, fun z hz y hy => ?_⟩
          have hz' := pS1.mem_iff.1 hz
          have hy' := pS2.mem_iff.1 hy
          rcases List.mem_append.1 hz' with hz' | hz' <;> rcases List.mem_append.1 hy' with hy' | hy'
          · exact aU1.2.2 z hz' y hy'
          · exact hUV z hz' y hy'
          · exact hVU z hz' y hy'
          · exact aV1.2.2 z hz' y hy'

/-! ### places -/
theorem asc_sortedIn {d : Array α} {A S B : List α} (h : d.toList = A ++ (S ++ B)) (hs : Asc lt S) : SortedIn lt A.length (A.length + S.length) d := by
  intro i j hi hij hj
  have e : ∀ q, A.length ≤ q → q < A.length + S.length → ∃ hq : q - A.length < S.length, d[q]! = S[q - A.length] := by
    intro q h1 h2
    refine ⟨by omega, ?_⟩
    have hl : q < d.size := by rw [← Array.length_toList, h]; simp; omega
    rw [getElem!_pos d q hl, ← Array.getElem_toList]
    simp only [h]
    rw [List.getElem_append_right h1, List.getElem_append_left]
  obtain ⟨h1, e1⟩ := e i hi (by omega)
  obtain ⟨h2, e2⟩ := e j (by omega) hj
  rw [e1, e2]
  exact (List.pairwise_iff_getElem.1 hs) _ _ h1 h2 (by omega)

theorem sortedIn_asc {d : Array α} {a b : Nat} (hb : b ≤ d.size) (h : SortedIn lt a b d) : Asc lt (d.extract a b).toList := by
  refine List.pairwise_iff_getElem.2 fun i j hi hj hij => ?_
  simp only [Array.length_toList, Array.size_extract] at hi hj
  have := h (a + i) (a + j) (by omega) (by omega) (by omega)
  rw [getElem!_pos d (a + i) (by omega), getElem!_pos d (a + j) (by omega)] at this
  simpa using this

theorem parts (d : Array α) (a b : Nat) (hab : a ≤ b) (hb : b ≤ d.size) : d.toList = (d.extract 0 a).toList ++ ((d.extract a b).toList ++ (d.extract b d.size).toList) := by
  rw [← Array.toList_append, ← Array.toList_append, Array.extract_append_extract, show min a b = a from by omega, show max b d.size = d.size from by omega, Array.extract_append_extract, show min 0 a = 0 from by omega, show max a d.size = d.size from by omega]
  simp

theorem permIn_of_list {d d' : Array α} {A S S' B : List α} (h : d.toList = A ++ (S ++ B)) (h' : d'.toList = A ++ (S' ++ B)) (hp : S'.Perm S) : PermIn A.length (A.length + S.length) d d' := by
  have hl := hp.length_eq
  have hs : d'.size = d.size := by rw [← Array.length_toList, ← Array.length_toList, h, h']; simp [hl]
  refine ⟨hs, fun i hi => ?_, ?_⟩
  · by_cases hd : i < d.size
    · rw [getElem!_pos d i hd, getElem!_pos d' i (by omega), ← Array.getElem_toList, ← Array.getElem_toList]
      simp only [h, h']
      rcases hi with hi | hi
      · rw [List.getElem_append_left hi, List.getElem_append_left hi]
      · rw [List.getElem_append_right (by omega), List.getElem_append_right (by omega), List.getElem_append_right (by omega), List.getElem_append_right (by omega)]
        simp only [hl]
    · rw [getElem!_neg d i hd, getElem!_neg d' i (by omega)]
  · have e : ∀ (q : Array α) (T : List α), q.toList = A ++ (T ++ B) → T.length = S.length → (q.extract A.length (A.length + S.length)).toList = T := by
      intro q T hq hT
      rw [Array.toList_extract, hq]
      simp [List.extract_eq_take_drop, ← hT]
    rw [e d S h rfl, e d' S' h' hl]
    exact hp

theorem symMerge_in (hS : SWO lt) (f a m b : Nat) (d : Array α) (h1 : a < m) (h2 : m < b) (hb : b ≤ d.size) (hf : b - a ≤ f) (s1 : SortedIn lt a m d) (s2 : SortedIn lt m b d) :
    PermIn a b d (symMerge lt f a m b d) ∧ SortedIn lt a b (symMerge lt f a m b d) := by
  have p1 := parts d a b (by omega) hb
  have p2 : (d.extract a b).toList = (d.extract a m).toList ++ (d.extract m b).toList := by
    rw [← Array.toList_append, Array.extract_append_extract]
    congr 2 <;> omega
  have lA : (d.extract 0 a).toList.length = a := by simp; omega
  have lU : (d.extract a m).toList.length = m - a := by simp; omega
  have lV : (d.extract m b).toList.length = b - m := by simp; omega
  rw [p2, List.append_assoc] at p1
  have q1 := sortedIn_asc (by omega) s1
  have q2 := sortedIn_asc hb s2
  generalize (d.extract 0 a).toList = A at *
  generalize (d.extract a m).toList = U at *
  generalize (d.extract m b).toList = V at *
  generalize (d.extract b d.size).toList = B at *
  obtain ⟨S, k1, k2, k3⟩ := symMerge_list hS f U V A B d (fun e => by have q := congrArg List.length e; simp only [List.length_nil] at q; omega) (fun e => by have q := congrArg List.length e; simp only [List.length_nil] at q; omega) (by omega) p1 q1 q2
  have e1 : A.length + U.length = m := by omega
  have e2 : A.length + U.length + V.length = b := by omega
  rw [e1, show m + V.length = b from by omega, lA] at k1
  have lS : S.length = U.length + V.length := by simpa using k2.length_eq
  have r1 := permIn_of_list (d := d) (d' := symMerge lt f a m b d) (A := A) (S := U ++ V) (S' := S) (B := B) (by rw [p1]; simp) k1 k2
  have r2 := asc_sortedIn (lt := lt) k1 k3
  rw [show A.length + (U ++ V).length = b from by simp; omega, lA] at r1
  rw [show A.length + S.length = b from by omega, lA] at r2
  exact ⟨r1, r2⟩


theorem permIn_size {a b : Nat} {d d' : Array α} (h : PermIn a b d d') : d'.size = d.size := h.1
/-- Off the places that were turned an ascending part stays. -/
theorem sorted_off {a b x y : Nat} {d d' : Array α} (h : PermIn a b d d') (hs : SortedIn lt x y d) (ho : y ≤ a ∨ b ≤ x) : SortedIn lt x y d' := by
  intro i j hi hij hj
  rw [h.2.1 i (by omega), h.2.1 j (by omega)]
  exact hs i j hi hij hj
theorem sorted_short (a n : Nat) (d : Array α) (h : n ≤ a + 1) : SortedIn lt a n d := fun i j hi hij hj => by omega

/-- Each block of that size is ascending. -/
def Blocks (lt : α → α → Bool) (size n : Nat) (d : Array α) : Prop := ∀ k, SortedIn lt (k * size) (min (k * size + size) n) d

theorem blocks_spec (hS : SWO lt) (n : Nat) : ∀ (f k : Nat) (d : Array α), d.size = n → k * 20 ≤ n → n < f + k * 20 → (∀ q, q < k → SortedIn lt (q * 20) (min (q * 20 + 20) n) d) →
    PermIn 0 n d (blocks lt n f (k * 20) d) ∧ Blocks lt 20 n (blocks lt n f (k * 20) d)
  | 0, k, d, hn, hk, hf, _ => by omega
  | f + 1, k, d, hn, hk, hf, hq => by
    unfold blocks
    split
    · rename_i hle
      obtain ⟨p1, p2⟩ := insertionSort_holds (α := α) (lt := lt) hS d (k * 20) (k * 20 + 20) (by omega) (by omega)
      have := blocks_spec hS n f (k + 1) (insertionSort lt d (k * 20) (k * 20 + 20)) (by rw [p1.1, hn]) (by omega) (by omega) (fun q hq' => by
        by_cases e : q = k
        · subst e; rw [show min (q * 20 + 20) n = q * 20 + 20 from by omega]; exact p2
        · exact sorted_off p1 (hq q (by omega)) (.inl (by omega)))
      rw [show (k + 1) * 20 = k * 20 + 20 from by omega] at this
      exact ⟨permIn_trans _ _ _ _ _ (permIn_mono _ _ _ _ _ _ (Nat.zero_le _) hle (by omega) p1) this.1, this.2⟩
    · rename_i hle
      obtain ⟨p1, p2⟩ := insertionSort_holds (α := α) (lt := lt) hS d (k * 20) n hk (by omega)
      refine ⟨permIn_mono _ _ _ _ _ _ (Nat.zero_le _) (Nat.le_refl _) (by omega) p1, fun q => ?_⟩
      by_cases e : q = k
      · subst e; rw [show min (q * 20 + 20) n = n from by omega]; exact p2
      · by_cases e2 : q < k
        · exact sorted_off p1 (hq q e2) (.inl (by omega))
        · exact sorted_short _ _ _ (by omega)

theorem pass_spec (hS : SWO lt) (n size : Nat) (hsz : 0 < size) : ∀ (f k : Nat) (d : Array α), d.size = n → k * (2 * size) ≤ n → n < f + k * (2 * size) → (∀ q, q < k → SortedIn lt (q * (2 * size)) (min (q * (2 * size) + 2 * size) n) d) →
    (∀ q, 2 * k ≤ q → SortedIn lt (q * size) (min (q * size + size) n) d) →
    PermIn 0 n d (pass lt size n f (k * (2 * size)) d) ∧ Blocks lt (2 * size) n (pass lt size n f (k * (2 * size)) d)
  | 0, k, d, hn, hk, hf, _, _ => by omega
  | f + 1, k, d, hn, hk, hf, hq, hr => by
    have m1 : (k + 1) * (2 * size) = k * (2 * size) + 2 * size := by rw [Nat.add_mul, Nat.one_mul]
    have m2 : 2 * k * size = k * (2 * size) := by rw [Nat.mul_comm 2 k, Nat.mul_assoc]
    have m3 : (2 * k + 1) * size = k * (2 * size) + size := by rw [Nat.add_mul, Nat.one_mul, m2]
    have lo : ∀ q, q < k → q * (2 * size) + 2 * size ≤ k * (2 * size) := fun q hq => by
      have := Nat.mul_le_mul_right (2 * size) (show q + 1 ≤ k from hq); rwa [Nat.add_mul, Nat.one_mul] at this
    have hi : ∀ q, k < q → k * (2 * size) + 2 * size ≤ q * (2 * size) := fun q hq => by
      have := Nat.mul_le_mul_right (2 * size) (show k + 1 ≤ q from hq); rwa [Nat.add_mul, Nat.one_mul] at this
    have hi2 : ∀ q, 2 * (k + 1) ≤ q → k * (2 * size) + 2 * size ≤ q * size := fun q hq => by
      have := Nat.mul_le_mul_right size hq; rw [Nat.mul_comm 2 (k + 1), Nat.mul_assoc, m1] at this; exact this
    have r0 := hr (2 * k) (Nat.le_refl _)
    have r1 := hr (2 * k + 1) (by omega)
    rw [m2] at r0
    rw [m3] at r1
    generalize hK : k * (2 * size) = K at *
    unfold pass
    split
    · rename_i hle
      rw [show min (K + size) n = K + size from by omega] at r0
      rw [show min (K + size + size) n = K + 2 * size from by omega] at r1
      obtain ⟨p1, p2⟩ := symMerge_in hS (2 * size) K (K + size) (K + 2 * size) d (by omega) (by omega) (by omega) (by omega) r0 r1
      have := pass_spec hS n size hsz f (k + 1) (symMerge lt (2 * size) K (K + size) (K + 2 * size) d) (by rw [p1.1, hn]) (by omega) (by omega) (fun q hq' => by
        by_cases e : q = k
        · subst e; rw [hK, show min (K + 2 * size) n = K + 2 * size from by omega]; exact p2
        · have := lo q (by omega)
          exact sorted_off p1 (hq q (by omega)) (.inl (by omega))) (fun q hq' => by
        have := hi2 q hq'
        exact sorted_off p1 (hr q (by omega)) (.inr this))
      rw [m1] at this
      exact ⟨permIn_trans _ _ _ _ _ (permIn_mono _ _ _ _ _ _ (Nat.zero_le _) hle (by omega) p1) this.1, this.2⟩
    · rename_i hle
      split
      · rename_i hlt
        rw [show min (K + size) n = K + size from by omega] at r0
        rw [show min (K + size + size) n = n from by omega] at r1
        obtain ⟨p1, p2⟩ := symMerge_in hS (n - K) K (K + size) n d (by omega) (by omega) (by omega) (by omega) r0 r1
        refine ⟨permIn_mono _ _ _ _ _ _ (Nat.zero_le _) (Nat.le_refl _) (by omega) p1, fun q => ?_⟩
        by_cases e : q = k
        · subst e; rw [hK, show min (K + 2 * size) n = n from by omega]; exact p2
        · by_cases e2 : q < k
          · have := lo q e2
            exact sorted_off p1 (hq q e2) (.inl (by omega))
          · have := hi q (by omega)
            exact sorted_short _ _ _ (by omega)
      · rename_i hlt
        refine ⟨permIn_refl _ _ _, fun q => ?_⟩
        by_cases e : q = k
        · subst e
          rw [hK, show min (K + 2 * size) n = min (K + size) n from by omega]
          exact r0
        · by_cases e2 : q < k
          · exact hq q e2
          · have := hi q (by omega)
            exact sorted_short _ _ _ (by omega)

theorem passes_spec (hS : SWO lt) (n : Nat) : ∀ (f size : Nat) (d : Array α), d.size = n → 0 < size → n < f + size → Blocks lt size n d →
    PermIn 0 n d (passes lt n f size d) ∧ SortedIn lt 0 n (passes lt n f size d)
  | 0, size, d, hn, h0, hf, hb => ⟨permIn_refl _ _ _, by have := hb 0; rwa [Nat.zero_mul, show min (0 + size) n = n from by omega] at this⟩
  | f + 1, size, d, hn, h0, hf, hb => by
    unfold passes
    split
    · obtain ⟨p1, p2⟩ := pass_spec hS n size h0 (n + 1) 0 d hn (by omega) (by omega) (fun q hq => by omega) (fun q _ => hb q)
      rw [Nat.zero_mul] at p1 p2
      have := passes_spec hS n f (2 * size) (pass lt size n (n + 1) 0 d) (by rw [p1.1, hn]) (by omega) (by omega) p2
      exact ⟨permIn_trans _ _ _ _ _ p1 this.1, this.2⟩
    · exact ⟨permIn_refl _ _ _, by have := hb 0; rwa [Nat.zero_mul, show min (0 + size) n = n from by omega] at this⟩

theorem stable_spec (hS : SWO lt) (d : Array α) : PermIn 0 d.size d (stable lt d) ∧ SortedIn lt 0 d.size (stable lt d) := by
  obtain ⟨p1, p2⟩ := blocks_spec hS d.size (d.size + 1) 0 d rfl (by omega) (by omega) (fun q hq => by omega)
  rw [Nat.zero_mul] at p1 p2
  have := passes_spec hS d.size (d.size + 1) 20 (blocks lt d.size (d.size + 1) 0 d) (by rw [p1.1]) (by omega) (by omega) p2
  exact ⟨permIn_trans _ _ _ _ _ p1 this.1, this.2⟩

end St
end Go.Sort
