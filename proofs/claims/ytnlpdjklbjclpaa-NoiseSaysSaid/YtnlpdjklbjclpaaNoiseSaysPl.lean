/- NoiseSays: the plain law over the printed functions: no memory and no Go in it. -/
import Derived.Test.YtnlpdjklbjclpaaPNoiseSaysx
namespace Go.Proofs.Ytnlpdjklbjclpaa.PNoiseSays
open Go.RowKit Go.Proofs.YtnlpdjklbjclpaaW.PrintWords Go.Proofs.YtnlpdjklbjclpaaW.PrintLast Go.Proofs.YtnlpdjklbjclpaaW.PrintMore
set_option linter.unusedVariables false
noncomputable section
theorem rd_nat {l : List Int} {i : Nat} (h : i < l.length) : rd l (i : Int) = l[i] := by simp [rd, h]
theorem rdT_nat {l : List S96} {i : Nat} (h : i < l.length) : rd_T96 l (i : Int) = l[i] := by simp [rd_T96, h]
theorem rgcd_ev (a : Nat) : ∀ b : Nat, Ev (fun k => ratio_gcd.l0 k (a : Int) (b : Int)) ((Nat.gcd a b : Nat) : Int) := by
  have main : ∀ n a b : Nat, b ≤ n → Ev (fun k => ratio_gcd.l0 k (a : Int) (b : Int)) ((Nat.gcd a b : Nat) : Int) := by
    intro n
    induction n with
    | zero =>
      intro a b hb
      obtain rfl : b = 0 := by omega
      refine Ev.step (fun k => ?_) (Ev.now _)
      rw [ratio_gcd.l0, if_pos (by rfl), Nat.gcd_zero_right]
    | succ n ih =>
      intro a b hb
      by_cases h0 : b = 0
      · subst h0
        refine Ev.step (fun k => ?_) (Ev.now _)
        rw [ratio_gcd.l0, if_pos (by rfl), Nat.gcd_zero_right]
      · have hlt : a % b < b := Nat.mod_lt _ (by omega)
        have e : Int.tmod (a : Int) (b : Int) = ((a % b : Nat) : Int) := by rw [Int.ofNat_tmod]
        rw [Nat.gcd_comm, Nat.gcd_rec, Nat.gcd_comm]
        refine Ev.step (fun k => ?_) (ih b (a % b) (by omega))
        rw [ratio_gcd.l0, if_neg (by omega), e]
  exact fun b => main b a b (Nat.le_refl _)
theorem rgcd_evf {a b : Int} (ha : 0 ≤ a) (hb : 0 ≤ b) : Ev (fun k => ratio_gcd.f k a b) ((Int.gcd a b : Nat) : Int) := by
  obtain ⟨m, rfl⟩ := Int.eq_ofNat_of_zero_le ha
  obtain ⟨n, rfl⟩ := Int.eq_ofNat_of_zero_le hb
  exact Ev.congr (fun _ => rfl) (rgcd_ev m n)
def RightR (u d : Int) : Prop := 0 ≤ u ∧ 1 ≤ d ∧ u ≤ 1073741824 ∧ d ≤ 1073741824 ∧ Int.gcd u d = 1
instance (u d : Int) : Decidable (RightR u d) := by unfold RightR; exact inferInstance
theorem right_ev (u d : Int) : Ev (fun k => ratio_Right.f k u d) (decide (RightR u d)) := by
  by_cases h1 : u ≥ 0
  · by_cases h2 : d ≥ 1
    · by_cases h3 : u ≤ 1073741824
      · by_cases h4 : d ≤ 1073741824
        · have e : decide (RightR u d) = (((Int.gcd u d : Nat) : Int) == 1) := by
            rw [Bool.eq_iff_iff, decide_eq_true_iff, beq_iff_eq]; unfold RightR; omega
          rw [e]
          refine Ev.congr (fun k => ?_) (Ev.bind (rgcd_evf (a := u) (b := d) (by omega) (by omega)) (f := fun _ t => some (t == 1)) (Ev.now _))
          rw [ratio_Right.f, if_pos h1, if_pos h2, if_pos h3, if_pos h4]
        · refine Ev.congr (f := fun _ => some false) (fun k => ?_) (by rw [decide_eq_false (by unfold RightR; omega)]; exact Ev.now _)
          rw [ratio_Right.f, if_pos h1, if_pos h2, if_pos h3, if_neg h4]
      · refine Ev.congr (f := fun _ => some false) (fun k => ?_) (by rw [decide_eq_false (by unfold RightR; omega)]; exact Ev.now _)
        rw [ratio_Right.f, if_pos h1, if_pos h2, if_neg h3]
    · refine Ev.congr (f := fun _ => some false) (fun k => ?_) (by rw [decide_eq_false (by unfold RightR; omega)]; exact Ev.now _)
      rw [ratio_Right.f, if_pos h1, if_neg h2]
  · refine Ev.congr (f := fun _ => some false) (fun k => ?_) (by rw [decide_eq_false (by unfold RightR; omega)]; exact Ev.now _)
    rw [ratio_Right.f, if_neg h1]
def SmallO (o : List Int) : Prop := o.length ≤ 16 ∧ ∀ n ∈ o, -1073741824 ≤ n ∧ n ≤ 1073741824
theorem index_none (l : List Int) (hl : l.length ≤ 4611686018427387904) (h : ∀ n ∈ l, -1073741824 ≤ n ∧ n ≤ 1073741824) : ∀ (d i : Nat), l.length - i = d → i ≤ l.length →
    Ev (fun k => slices_IndexFunc_int_int_dist_small_1.l0 k l (l.length : Int) (i : Int)) (-1) := by
  intro d
  induction d with
  | zero =>
    intro i hd hi
    refine Ev.step (f := fun _ => some (-1)) (fun k => ?_) (Ev.now _)
    rw [slices_IndexFunc_int_int_dist_small_1.l0, if_neg (by omega)]
  | succ d ih =>
    intro i hd hi
    have hlt : i < l.length := by omega
    have hm := h l[i] (List.getElem_mem hlt)
    have hs : dist_small_1.f l[i] = some false := by
      rw [dist_small_1.f, if_neg (by omega)]
      congr 1
      exact decide_eq_false (by omega)
    refine Ev.step (fun k => ?_) (ih (i + 1) (by omega) (by omega))
    rw [slices_IndexFunc_int_int_dist_small_1.l0, if_pos (by omega), if_pos (by omega), if_pos (by omega), rd_nat hlt, hs, Option.bind_some, if_neg (by decide), w64 (by omega) (by omega)]
    rfl
theorem small_ev {o : List Int} (h : SmallO o) : Ev (fun k => dist_small.f k o) true := by
  have h1 := h.1
  refine Ev.congr (fun k => ?_) (Ev.bind (g := fun k => slices_ContainsFunc_int_int_dist_small_1.f k o) (a := false) ?_ (f := fun _ t => some (!t)) (Ev.now _))
  · rw [dist_small.f, if_pos (by omega)]
  · refine Ev.congr (fun k => ?_) (Ev.bind (index_none o (by omega) h.2 o.length 0 (by omega) (by omega)) (f := fun _ t => some (decide (t ≥ 0))) (Ev.now _))
    rfl
theorem equal_ev_go (a b : List Int) (hl : a.length ≤ 4611686018427387904) (hab : a.length = b.length) : ∀ (d i : Nat), a.length - i = d → i ≤ a.length →
    Ev (fun k => slices_Equal_int_int.l0 k a b (a.length : Int) (i : Int)) (decide (a.drop i = b.drop i)) := by
  intro d
  induction d with
  | zero =>
    intro i hd hi
    have e : a.drop i = b.drop i := by rw [List.drop_eq_nil_of_le (by omega), List.drop_eq_nil_of_le (by omega)]
    rw [decide_eq_true e]
    refine Ev.step (f := fun _ => some true) (fun k => ?_) (Ev.now _)
    rw [slices_Equal_int_int.l0, if_neg (by omega)]
  | succ d ih =>
    intro i hd hi
    have ha : i < a.length := by omega
    have hb : i < b.length := by omega
    have e : decide (a.drop i = b.drop i) = (decide (a[i] = b[i]) && decide (a.drop (i + 1) = b.drop (i + 1))) := by
      rw [List.drop_eq_getElem_cons ha, List.drop_eq_getElem_cons hb, Bool.eq_iff_iff, decide_eq_true_iff, List.cons.injEq, Bool.and_eq_true, decide_eq_true_iff, decide_eq_true_iff]
    rw [e]
    by_cases q : a[i] = b[i]
    · rw [decide_eq_true q, Bool.true_and]
      refine Ev.step (fun k => ?_) (ih (i + 1) (by omega) (by omega))
      rw [slices_Equal_int_int.l0, if_pos (by omega), if_pos (by omega), if_pos (by omega), if_pos (by omega), rd_nat ha, rd_nat hb, if_pos q, w64 (by omega) (by omega)]
      rfl
    · rw [decide_eq_false q, Bool.false_and]
      refine Ev.step (f := fun _ => some false) (fun k => ?_) (Ev.now _)
      rw [slices_Equal_int_int.l0, if_pos (by omega), if_pos (by omega), if_pos (by omega), if_pos (by omega), rd_nat ha, rd_nat hb, if_neg q]
theorem equal_ev (a b : List Int) (hl : a.length ≤ 4611686018427387904) : Ev (fun k => slices_Equal_int_int.f k a b) (decide (a = b)) := by
  by_cases hab : a.length = b.length
  · refine Ev.congr (fun k => ?_) (equal_ev_go a b hl hab a.length 0 (by omega) (by omega))
    rw [slices_Equal_int_int.f, if_pos (by omega)]
    rfl
  · rw [decide_eq_false (fun e => hab (by rw [e]))]
    refine Ev.congr (f := fun _ => some false) (fun k => ?_) (Ev.now _)
    rw [slices_Equal_int_int.f, if_neg (by omega)]
abbrev P := S96
def wsum (l : List P) : Int := (l.map (·.f1)).sum
@[simp] theorem wsum_nil : wsum [] = 0 := rfl
@[simp] theorem wsum_cons (p : P) (l : List P) : wsum (p :: l) = p.f1 + wsum l := by simp [wsum]
@[simp] theorem wsum_append (l m : List P) : wsum (l ++ m) = wsum l + wsum m := by simp [wsum]
theorem wsum_nonneg {l : List P} (h : ∀ p ∈ l, 0 ≤ p.f1) : 0 ≤ wsum l := by
  induction l with
  | nil => simp
  | cons p l ih =>
    have := h p (List.mem_cons_self ..)
    have := ih (fun q hq => h q (List.mem_cons_of_mem _ hq))
    rw [wsum_cons]; omega
theorem wsum_mem {l : List P} (h : ∀ p ∈ l, 0 ≤ p.f1) {p : P} (hp : p ∈ l) : p.f1 ≤ wsum l := by
  induction l with
  | nil => simp at hp
  | cons q l ih =>
    have h1 := h q (List.mem_cons_self ..)
    have h2 := wsum_nonneg (fun q hq => h q (List.mem_cons_of_mem _ hq))
    rw [wsum_cons]
    rcases List.mem_cons.1 hp with rfl | hp
    · omega
    · have := ih (fun q hq => h q (List.mem_cons_of_mem _ hq)) hp
      omega
theorem total_go (l : List P) (hl : l.length ≤ 4611686018427387904) : ∀ (d i : Nat) (s : Int), l.length - i = d → i ≤ l.length → (∀ p ∈ l, 0 ≤ p.f1) → 0 ≤ s → s + wsum (l.drop i) ≤ 4611686018427387904 →
    Ev (fun k => dist_total.l0 k s l (l.length : Int) (i : Int)) (s + wsum (l.drop i)) := by
  intro d
  induction d with
  | zero =>
    intro i s hd hi h0 hs hb
    rw [List.drop_eq_nil_of_le (by omega), wsum_nil, Int.add_zero]
    refine Ev.step (f := fun _ => some s) (fun k => ?_) (Ev.now _)
    rw [dist_total.l0, if_neg (by omega)]
  | succ d ih =>
    intro i s hd hi h0 hs hb
    have hlt : i < l.length := by omega
    have hm := h0 l[i] (List.getElem_mem hlt)
    rw [List.drop_eq_getElem_cons hlt, wsum_cons] at hb ⊢
    have hn : 0 ≤ wsum (l.drop (i + 1)) := wsum_nonneg (fun p hp => h0 p (List.mem_of_mem_drop hp))
    rw [← Int.add_assoc]
    refine Ev.step (fun k => ?_) (ih (i + 1) (s + l[i].f1) (by omega) (by omega) h0 (by omega) (by omega))
    rw [dist_total.l0, if_pos (by omega), if_pos (by omega), if_pos (by omega), rdT_nat hlt, w64 (x := s + _) (by omega) (by omega), w64 (by omega) (by omega)]
    rfl
theorem total_ev {l : List P} (hl : l.length ≤ 4611686018427387904) (h0 : ∀ p ∈ l, 0 ≤ p.f1) (hb : wsum l ≤ 4611686018427387904) : Ev (fun k => dist_total.f k l) (wsum l) := by
  have := total_go l hl l.length 0 0 (by omega) (by omega) h0 (by omega) (by rw [List.drop_zero]; omega)
  rw [List.drop_zero, Int.zero_add] at this
  exact Ev.congr (fun _ => rfl) this
def gstep (acc : List P) (p : P) : List P :=
  if p.f1 = 0 then acc else match acc.getLast? with
    | some q => if q.f0 = p.f0 then acc.dropLast ++ [⟨q.f0, q.f1 + p.f1⟩] else acc ++ [p]
    | none => acc ++ [p]
def gath (acc l : List P) : List P := l.foldl gstep acc
theorem gstep_zero {acc : List P} {p : P} (h : p.f1 = 0) : gstep acc p = acc := by simp [gstep, h]
theorem gstep_nil {p : P} (h : p.f1 ≠ 0) : gstep [] p = [p] := by simp [gstep, h]
theorem gstep_eq {acc : List P} {p q : P} (h : p.f1 ≠ 0) (he : q.f0 = p.f0) : gstep (acc ++ [q]) p = acc ++ [⟨q.f0, q.f1 + p.f1⟩] := by simp [gstep, h, he]
theorem gstep_ne {acc : List P} {p q : P} (h : p.f1 ≠ 0) (he : q.f0 ≠ p.f0) : gstep (acc ++ [q]) p = acc ++ [q] ++ [p] := by simp [gstep, h, he]
theorem P_eta (p : P) : (⟨p.f0, p.f1⟩ : P) = p := rfl
def gl (g : Nat) (l : List P) : Nat := l.foldl (fun g p => Nat.gcd g p.f1.toNat) g
theorem gl_cons (g : Nat) (p : P) (l : List P) : gl g (p :: l) = gl (Nat.gcd g p.f1.toNat) l := rfl
theorem gl_dvd (l : List P) : ∀ g, gl g l ∣ g ∧ ∀ p ∈ l, gl g l ∣ p.f1.toNat := by
  induction l with
  | nil => intro g; exact ⟨Nat.dvd_refl _, by simp⟩
  | cons p l ih =>
    intro g
    obtain ⟨h1, h2⟩ := ih (Nat.gcd g p.f1.toNat)
    rw [gl_cons]
    refine ⟨Nat.dvd_trans h1 (Nat.gcd_dvd_left _ _), fun q hq => ?_⟩
    rcases List.mem_cons.1 hq with rfl | hq
    · exact Nat.dvd_trans h1 (Nat.gcd_dvd_right _ _)
    · exact h2 q hq
theorem dvd_gl (l : List P) : ∀ g d : Nat, d ∣ g → (∀ p ∈ l, d ∣ p.f1.toNat) → d ∣ gl g l := by
  induction l with
  | nil => intro g d h _; exact h
  | cons p l ih =>
    intro g d h h2
    rw [gl_cons]
    exact ih _ _ (Nat.dvd_gcd h (h2 p (List.mem_cons_self ..))) (fun q hq => h2 q (List.mem_cons_of_mem _ hq))
def over (g : Int) (l : List P) : List P := l.map fun p => ⟨p.f0, p.f1 / g⟩
def rest (ys : List P) : List P × Int :=
  let d := gath [] ys
  if d = [] then ([], 6) else if wsum d / (gl 0 d : Int) > 1073741824 ∨ d.length > 4096 then ([], 4) else (over (gl 0 d : Int) d, 0)
theorem gstep_pos {acc : List P} {p : P} (ha : ∀ q ∈ acc, 0 < q.f1) (hp : 0 ≤ p.f1) : (∀ q ∈ gstep acc p, 0 < q.f1) ∧ wsum (gstep acc p) = wsum acc + p.f1 ∧ (gstep acc p).length ≤ acc.length + 1 := by
  by_cases h0 : p.f1 = 0
  · rw [gstep_zero h0]; exact ⟨ha, by omega, by omega⟩
  · rcases List.eq_nil_or_concat acc with rfl | ⟨a, q, rfl⟩
    · rw [gstep_nil h0]
      exact ⟨fun q hq => by obtain rfl := List.mem_singleton.1 hq; omega, by simp, by simp⟩
    · by_cases he : q.f0 = p.f0
      · have hq := ha q (by simp)
        simp only [List.concat_eq_append] at ha ⊢
        rw [gstep_eq h0 he]
        refine ⟨fun x hx => ?_, by simp; omega, by simp⟩
        rcases List.mem_append.1 hx with hx | hx
        · exact ha x (List.mem_append_left _ hx)
        · obtain rfl := List.mem_singleton.1 hx
          show 0 < q.f1 + p.f1
          omega
      · simp only [List.concat_eq_append] at ha ⊢
        rw [gstep_ne h0 he]
        refine ⟨fun x hx => ?_, by simp; omega, by simp⟩
        rcases List.mem_append.1 hx with hx | hx
        · exact ha x hx
        · obtain rfl := List.mem_singleton.1 hx
          omega
theorem gath_pos (l : List P) : ∀ acc : List P, (∀ q ∈ acc, 0 < q.f1) → (∀ p ∈ l, 0 ≤ p.f1) → (∀ q ∈ gath acc l, 0 < q.f1) ∧ wsum (gath acc l) = wsum acc + wsum l ∧ (gath acc l).length ≤ acc.length + l.length := by
  induction l with
  | nil => intro acc ha _; exact ⟨ha, by simp [gath], by simp [gath]⟩
  | cons p l ih =>
    intro acc ha hl
    obtain ⟨g1, g2, g3⟩ := gstep_pos ha (hl p (List.mem_cons_self ..))
    obtain ⟨i1, i2, i3⟩ := ih (gstep acc p) g1 (fun q hq => hl q (List.mem_cons_of_mem _ hq))
    have e : gath acc (p :: l) = gath (gstep acc p) l := rfl
    rw [e]
    refine ⟨i1, by rw [i2, g2, wsum_cons]; omega, by simp; omega⟩
theorem set_last {α : Type} (a : List α) (q x : α) : (a ++ [q]).set ((a ++ [q]).length - 1) x = a ++ [x] := by
  simp
theorem rest_go (ys : List P) (hl : ys.length ≤ 1099511627776) (h0 : ∀ p ∈ ys, 0 ≤ p.f1) (hsmall : ∀ p ∈ ys, p.f0.length ≤ 16) : ∀ (d i : Nat) (acc : List P), ys.length - i = d → i ≤ ys.length → acc.length ≤ i → (∀ q ∈ acc, 0 < q.f1) → (∀ q ∈ acc, q.f0.length ≤ 16) → wsum acc + wsum (ys.drop i) ≤ 4611686018427387904 →
    ∀ r, Ev (fun k => if ((gath acc (ys.drop i)).length : Int) = 0 then (some (([] : List P), 6)) else (dist_tidy_rest.l1 k (gath acc (ys.drop i)) 0 (gath acc (ys.drop i)) ((gath acc (ys.drop i)).length : Int) 0)) r →
    Ev (fun k => dist_tidy_rest.l0 k acc ys (ys.length : Int) (i : Int)) r := by
  intro d
  induction d with
  | zero =>
    intro i acc hd hi ha hq hs hb r hr
    rw [List.drop_eq_nil_of_le (by omega)] at hr
    refine Ev.step (fun k => ?_) hr
    rw [dist_tidy_rest.l0, if_neg (by omega)]
    rfl
  | succ d ih =>
    intro i acc hd hi ha hq hs hb r hr
    have hlt : i < ys.length := by omega
    have hm := h0 ys[i] (List.getElem_mem hlt)
    have hms := hsmall ys[i] (List.getElem_mem hlt)
    have hn : 0 ≤ wsum (ys.drop (i + 1)) := wsum_nonneg (fun p hp => h0 p (List.mem_of_mem_drop hp))
    have hna : 0 ≤ wsum acc := wsum_nonneg (fun p hp => Int.le_of_lt (hq p hp))
    obtain ⟨g1, g2, g3⟩ := gstep_pos hq hm
    rw [List.drop_eq_getElem_cons hlt] at hb hr
    rw [wsum_cons] at hb
    have gs : ∀ q ∈ gstep acc ys[i], q.f0.length ≤ 16 := by
      intro q hq'
      by_cases hz : ys[i].f1 = 0
      · rw [gstep_zero hz] at hq'; exact hs q hq'
      · rcases List.eq_nil_or_concat acc with rfl | ⟨a, x, rfl⟩
        · rw [gstep_nil hz] at hq'; obtain rfl := List.mem_singleton.1 hq'; exact hms
        · simp only [List.concat_eq_append] at hq' hs
          by_cases he : x.f0 = ys[i].f0
          · rw [gstep_eq hz he] at hq'
            rcases List.mem_append.1 hq' with h | h
            · exact hs q (List.mem_append_left _ h)
            · obtain rfl := List.mem_singleton.1 h; exact hs x (by simp)
          · rw [gstep_ne hz he] at hq'
            rcases List.mem_append.1 hq' with h | h
            · exact hs q h
            · obtain rfl := List.mem_singleton.1 h; exact hms
    have I := ih (i + 1) (gstep acc ys[i]) (by omega) (by omega) (by omega) g1 gs (by omega) r hr
    have hil : i < 1099511627776 := by omega
    have hai : acc.length < 4398046511104 := by omega
    have hbx : ∀ z : Int, 0 < z → z ≤ wsum acc → wrap64 (z + ys[i].f1) = z + ys[i].f1 := fun z h1 h2 => w64 (by omega) (by omega)
    clear ih g1 g2 g3 gs hn hna hb hr hsmall h0 hms ha hl
    have c1 : (i : Int) < (ys.length : Int) := by omega
    have c2 : (0 : Int) ≤ (i : Int) := by omega
    have wi : wrap64 ((i : Int) + 1) = ((i + 1 : Nat) : Int) := by rw [w64 (by omega) (by omega)]; rfl
    by_cases hz : ys[i].f1 = 0
    · rw [gstep_zero hz] at I
      refine Ev.step (fun k => ?_) I
      rw [dist_tidy_rest.l0, if_pos c1, if_pos c2, if_pos c1, rdT_nat hlt, if_pos hz, wi]
    · rcases List.eq_nil_or_concat acc with rfl | ⟨a, x, rfl⟩
      · rw [gstep_nil hz] at I
        refine Ev.step (fun k => ?_) I
        rw [dist_tidy_rest.l0, if_pos c1, if_pos c2, if_pos c1, rdT_nat hlt, if_neg hz, wi, if_neg (by simp), if_pos (by simp)]
        rfl
      · simp only [List.concat_eq_append] at I hq hs hbx hai ⊢
        have hL : (a ++ [x]).length = a.length + 1 := by simp
        have wl : wrap64 (((a ++ [x]).length : Int) - 1) = ((a.length : Nat) : Int) := by rw [hL] at hai ⊢; clear hbx I hq hs; rw [w64 (by omega) (by omega)]; omega
        have rl : rd_T96 (a ++ [x]) (a.length : Int) = x := by rw [rdT_nat (by rw [hL]; exact Nat.lt_succ_self _)]; simp
        have hE := equal_ev x.f0 ys[i].f0 (Nat.le_trans (hs x (by simp)) (by decide))
        have ws := hbx x.f1 (hq x (by simp)) (wsum_mem (fun p hp => Int.le_of_lt (hq p hp)) (p := x) (by simp))
        have k1 : ((a ++ [x]).length : Int) > 0 := by rw [hL]; clear hbx I hq hs; omega
        have k2 : (0 : Int) ≤ ((a.length : Nat) : Int) := by clear hbx I hq hs; omega
        have k3 : ((a.length : Nat) : Int) < ((a ++ [x]).length : Int) := by rw [hL]; clear hbx I hq hs; omega
        have key : ∀ k, dist_tidy_rest.l0 (k + 1) (a ++ [x]) ys (ys.length : Int) (i : Int) = (slices_Equal_int_int.f k x.f0 ys[i].f0).bind fun t => if t = true then dist_tidy_rest.l0 k (a ++ [⟨x.f0, x.f1 + ys[i].f1⟩]) ys (ys.length : Int) ((i + 1 : Nat) : Int) else if (a ++ [x]).length < 4398046511104 then (dist_tidy_rest.l0 k ((a ++ [x]) ++ [(⟨ys[i].f0, ys[i].f1⟩ : P)]) ys (ys.length : Int) ((i + 1 : Nat) : Int)) else none := by
          intro k
          rw [dist_tidy_rest.l0, if_pos c1, if_pos c2, if_pos c1, rdT_nat hlt, if_neg hz, wi, if_pos k1, wl, if_pos k2, if_pos k3, rl, ws]
          congr 1
          funext t
          have e := set_last a x (⟨x.f0, x.f1 + ys[i].f1⟩ : P)
          rw [hL, Nat.add_sub_cancel] at e
          rw [Int.toNat_natCast, e]
        by_cases he : x.f0 = ys[i].f0
        · rw [decide_eq_true he] at hE
          rw [gstep_eq hz he] at I
          exact Ev.step key (Ev.bind hE (Ev.congr (fun k => if_pos rfl) I))
        · rw [decide_eq_false he] at hE
          rw [gstep_ne hz he] at I
          exact Ev.step key (Ev.bind hE (Ev.congr (fun k => by rw [if_neg (by decide), if_pos hai]) I))
theorem rest_gcd (d : List P) (hl : d.length ≤ 4611686018427387904) (h0 : ∀ p ∈ d, 0 ≤ p.f1) (r : List P × Int) : ∀ (n i : Nat) (g : Nat), d.length - i = n → i ≤ d.length →
    Ev (fun k => dist_tidy_rest.l1 k d ((gl g (d.drop i) : Nat) : Int) d (d.length : Int) (d.length : Int)) r →
    Ev (fun k => dist_tidy_rest.l1 k d (g : Int) d (d.length : Int) (i : Int)) r := by
  intro n
  induction n with
  | zero =>
    intro i g hn hi hr
    obtain rfl : i = d.length := by omega
    rw [List.drop_eq_nil_of_le (by omega)] at hr
    exact hr
  | succ n ih =>
    intro i g hn hi hr
    have hlt : i < d.length := by omega
    have hm := h0 d[i] (List.getElem_mem hlt)
    rw [List.drop_eq_getElem_cons hlt, gl_cons] at hr
    obtain ⟨m, hm'⟩ := Int.eq_ofNat_of_zero_le hm
    rw [hm', Int.toNat_natCast] at hr
    have I := ih (i + 1) (Nat.gcd g m) (by omega) (by omega) hr
    refine Ev.step (fun k => ?_) (Ev.bind (gcd_evf g m) (f := fun k t => dist_tidy_rest.l1 k d t d (d.length : Int) ((i + 1 : Nat) : Int)) I)
    rw [dist_tidy_rest.l1, if_pos (by omega), if_pos (by omega), if_pos (by omega), rdT_nat hlt, hm', w64 (by omega) (by omega)]
    rfl
theorem rest_div (g : Int) (hg : 0 < g) (d : List P) (hl : d.length ≤ 4611686018427387904) (h0 : ∀ p ∈ d, 0 ≤ p.f1) (hb : ∀ p ∈ d, p.f1 ≤ 4611686018427387904) : ∀ (n i : Nat) (e : List P), d.length - i = n → i ≤ d.length → e = over g (d.take i) ++ d.drop i →
    Ev (fun k => dist_tidy_rest.l2 k e g (d.length : Int) (i : Int)) (over g d, 0) := by
  intro n
  induction n with
  | zero =>
    intro i e hn hi he
    rw [List.take_of_length_le (by omega), List.drop_eq_nil_of_le (by omega), List.append_nil] at he
    refine Ev.step (f := fun _ => some (over g d, 0)) (fun k => ?_) (Ev.now _)
    rw [dist_tidy_rest.l2, if_neg (by omega), he]
  | succ n ih =>
    intro i e hn hi he
    have hlt : i < d.length := by omega
    have hm := h0 d[i] (List.getElem_mem hlt)
    have hb' := hb d[i] (List.getElem_mem hlt)
    have hel : e.length = d.length := by rw [he]; simp [over]; omega
    have hei : e[i]'(by omega) = d[i] := by
      have : (over g (d.take i)).length = i := by simp [over]; omega
      simp only [he]
      rw [List.getElem_append_right (by omega)]
      simp [this]
    have hse : e.set i (⟨d[i].f0, d[i].f1 / g⟩ : P) = over g (d.take (i + 1)) ++ d.drop (i + 1) := by
      have h1 : (over g (d.take i)).length = i := by simp [over]; omega
      rw [he, List.set_append_right (h := by omega), h1, Nat.sub_self, List.drop_eq_getElem_cons hlt, List.set_cons_zero, List.take_succ_eq_append_getElem hlt]
      simp only [over, List.map_append, List.map_cons, List.map_nil, List.append_assoc, List.cons_append, List.nil_append]
    have I := ih (i + 1) _ (by omega) (by omega) hse
    have q1 : Int.tdiv d[i].f1 g = d[i].f1 / g := Int.tdiv_eq_ediv_of_nonneg hm
    have p1 : d[i].f1 / g ≤ d[i].f1 := Int.ediv_le_self _ hm
    have p2 : 0 ≤ d[i].f1 / g := Int.ediv_nonneg hm (by omega)
    refine Ev.step (fun k => ?_) I
    rw [dist_tidy_rest.l2, if_pos (by omega), if_pos (by omega), if_pos (by omega), if_neg (by omega), rdT_nat (by omega), hei, q1, w64 (by omega) (by omega), w64 (by omega) (by omega)]
    rfl
theorem over_one_nil {g : Int} : over g [] = [] := rfl
theorem rest_ev {ys : List P} (hl : ys.length ≤ 1099511627776) (h0 : ∀ p ∈ ys, 0 ≤ p.f1) (hsmall : ∀ p ∈ ys, p.f0.length ≤ 16) (hb : wsum ys ≤ 4611686018427387904) : Ev (fun k => dist_tidy_rest.f k ys) (rest ys) := by
  obtain ⟨g1, g2, g3⟩ := gath_pos ys [] (by simp) h0
  rw [wsum_nil, Int.zero_add] at g2
  refine Ev.congr (fun _ => rfl) (rest_go ys hl h0 hsmall ys.length 0 [] (by omega) (by omega) (by simp) (by simp) (by simp) (by simpa using hb) _ ?_)
  rw [List.drop_zero]
  unfold rest
  simp only
  generalize gath [] ys = d at *
  simp only [List.length_nil, Nat.zero_add] at g3
  by_cases hd : d = []
  · rw [if_pos hd]
    refine Ev.congr (f := fun _ => some (([] : List P), 6)) (fun k => ?_) (Ev.now _)
    rw [if_pos (by rw [hd]; rfl)]
  · have hdl : 0 < d.length := List.length_pos_iff.2 hd
    have hd0 : ∀ p ∈ d, 0 ≤ p.f1 := fun p hp => Int.le_of_lt (g1 p hp)
    have hgp : 0 < gl 0 d := by
      rcases Nat.eq_zero_or_pos (gl 0 d) with h | h
      · have h1 := (gl_dvd d 0).2 d[0] (List.getElem_mem hdl)
        rw [h] at h1
        have := Nat.eq_zero_of_zero_dvd h1
        have := g1 d[0] (List.getElem_mem hdl)
        omega
      · exact h
    rw [if_neg hd]
    refine Ev.congr (fun k => by rw [if_neg (by omega)]; rfl) (rest_gcd d (by omega) hd0 _ d.length 0 0 (by omega) (by omega) ?_)
    rw [List.drop_zero]
    have hn := wsum_nonneg hd0
    have q1 : Int.tdiv (wsum d) (gl 0 d : Int) = wsum d / (gl 0 d : Int) := Int.tdiv_eq_ediv_of_nonneg hn
    have p1 : wsum d / (gl 0 d : Int) ≤ wsum d := Int.ediv_le_self _ hn
    have p2 : 0 ≤ wsum d / (gl 0 d : Int) := Int.ediv_nonneg hn (by omega)
    have T := total_ev (l := d) (by omega) hd0 (by omega)
    have fin : ∀ b : Bool, Ev (fun k => dist_tidy_rest.j2 k d (gl 0 d : Int) b) (if b = true then (([] : List P), 4) else (over (gl 0 d : Int) d, 0)) := by
      intro b
      cases b with
      | true =>
        refine Ev.step (f := fun _ => some (([] : List P), 4)) (fun k => ?_) (Ev.now _)
        rw [dist_tidy_rest.j2, if_pos rfl]
      | false =>
        refine Ev.step (fun k => ?_) (rest_div (gl 0 d : Int) (by omega) d (by omega) hd0 (fun p hp => by have := wsum_mem hd0 hp; omega) d.length 0 d (by omega) (by omega) (by simp [over]))
        rw [dist_tidy_rest.j2, if_neg (by decide)]
        rfl
    have step : ∀ (b : Bool) (r : List P × Int), Ev (fun k => dist_tidy_rest.j2 k d (gl 0 d : Int) b) r → (∀ k, (if (wrap64 (Int.tdiv (wsum d) (gl 0 d : Int))) > 1073741824 then (dist_tidy_rest.j2 k d (gl 0 d : Int) true) else (dist_tidy_rest.j2 k d (gl 0 d : Int) (decide ((d.length : Int) > 4096)))) = dist_tidy_rest.j2 k d (gl 0 d : Int) b) → Ev (fun k => dist_tidy_rest.l1 k d ((gl 0 d : Nat) : Int) d (d.length : Int) (d.length : Int)) r := by
      intro b r hr hk
      refine Ev.step (fun k => ?_) (Ev.bind T (f := fun k t => if ((gl 0 d : Nat) : Int) = 0 then none else if (wrap64 (Int.tdiv t (gl 0 d : Int))) > 1073741824 then (dist_tidy_rest.j2 k d (gl 0 d : Int) true) else (dist_tidy_rest.j2 k d (gl 0 d : Int) (decide ((d.length : Int) > 4096)))) (Ev.congr (fun k => by rw [if_neg (by omega), hk]) hr))
      rw [dist_tidy_rest.l1, if_neg (by omega)]
    by_cases c1 : wsum d / (gl 0 d : Int) > 1073741824
    · rw [if_pos (Or.inl c1)]
      exact step true _ (fin true) (fun k => by rw [q1, w64 (by omega) (by omega), if_pos c1])
    · by_cases c2 : d.length > 4096
      · rw [if_pos (Or.inr c2)]
        exact step true _ (fin true) (fun k => by rw [q1, w64 (by omega) (by omega), if_neg c1, decide_eq_true (by omega)])
      · rw [if_neg (by omega)]
        exact step false _ (fin false) (fun k => by rw [q1, w64 (by omega) (by omega), if_neg c1, decide_eq_false (by omega)])
theorem uniform {α : Type} (l : List α) : ∀ (Q : Nat → List α → Prop), (∀ k ys, Q k ys → Q (k + 1) ys) → (∀ ys, ys.Perm l → ∃ K, Q K ys) → ∃ K, ∀ ys, ys.Perm l → ∀ k, K ≤ k → Q k ys := by
  have up : ∀ (R : Nat → Prop), (∀ k, R k → R (k + 1)) → ∀ K k, R K → K ≤ k → R k := fun R hR K k h0 hk => by
    obtain ⟨d, rfl⟩ := Nat.exists_eq_add_of_le hk
    clear hk
    induction d with
    | zero => exact h0
    | succ d ih => exact hR _ ih
  induction l with
  | nil =>
    intro Q hQ h
    obtain ⟨K, hK⟩ := h [] (.refl _)
    exact ⟨K, fun ys hy k hk => by obtain rfl := hy.eq_nil; exact up _ (fun k => hQ k _) K k hK hk⟩
  | cons a l ih =>
    intro Q hQ h
    have fin : ∀ (zs : List α), zs.Perm l → ∀ n, ∃ K, ∀ i, i ≤ n → Q K (zs.take i ++ a :: zs.drop i) := by
      intro zs hz n
      have one : ∀ i, ∃ K, Q K (zs.take i ++ a :: zs.drop i) := fun i => h _ (List.perm_middle.trans (by rw [List.take_append_drop]; exact hz.cons a))
      induction n with
      | zero =>
        obtain ⟨K, hK⟩ := one 0
        exact ⟨K, fun i hi => by obtain rfl : i = 0 := by omega
                                 exact hK⟩
      | succ n ihn =>
        obtain ⟨K1, h1⟩ := ihn
        obtain ⟨K2, h2⟩ := one (n + 1)
        refine ⟨K1 + K2, fun i hi => ?_⟩
        rcases Nat.lt_or_ge n i with q | q
        · obtain rfl : i = n + 1 := by omega
          exact up (fun k => Q k _) (fun k => hQ k _) K2 _ h2 (by omega)
        · exact up (fun k => Q k _) (fun k => hQ k _) K1 _ (h1 i q) (by omega)
    obtain ⟨K, hK⟩ := ih (fun k zs => ∀ i, i ≤ zs.length → Q k (zs.take i ++ a :: zs.drop i)) (fun k zs hz i hi => hQ _ _ (hz i hi)) (fun zs hz => fin zs hz zs.length)
    refine ⟨K, fun ys hy k hk => ?_⟩
    have ha : a ∈ ys := hy.mem_iff.2 (List.mem_cons_self ..)
    obtain ⟨s, t, rfl⟩ := List.append_of_mem ha
    have hp : (s ++ t).Perm l := (List.perm_cons a).1 (List.perm_middle.symm.trans hy)
    have := hK (s ++ t) hp k hk s.length (by simp)
    simpa using this
def lin (f : List Int → Int) (l : List P) : Int := (l.map fun p => f p.f0 * p.f1).sum
@[simp] theorem lin_nil (f : List Int → Int) : lin f [] = 0 := rfl
@[simp] theorem lin_cons (f : List Int → Int) (p : P) (l : List P) : lin f (p :: l) = f p.f0 * p.f1 + lin f l := by simp [lin]
@[simp] theorem lin_append (f : List Int → Int) (l m : List P) : lin f (l ++ m) = lin f l + lin f m := by simp [lin]
theorem lin_perm (f : List Int → Int) {l m : List P} (h : l.Perm m) : lin f l = lin f m := by
  induction h with
  | nil => rfl
  | cons x _ ih => rw [lin_cons, lin_cons, ih]
  | swap x y l => rw [lin_cons, lin_cons, lin_cons, lin_cons]; omega
  | trans _ _ i1 i2 => rw [i1, i2]
theorem lin_one (l : List P) : lin (fun _ => 1) l = wsum l := by
  induction l with
  | nil => rfl
  | cons p l ih => rw [lin_cons, wsum_cons, ih]; omega
theorem wsum_perm {l m : List P} (h : l.Perm m) : wsum l = wsum m := by rw [← lin_one, ← lin_one, lin_perm _ h]
def ind (o : List Int) : List Int → Int := fun x => if x = o then 1 else 0
def wt (l : List P) (o : List Int) : Int := lin (ind o) l
theorem wt_cons (p : P) (l : List P) (o : List Int) : wt (p :: l) o = (if p.f0 = o then p.f1 else 0) + wt l o := by
  unfold wt ind
  rw [lin_cons]
  by_cases h : p.f0 = o
  · simp only [h, if_true]; omega
  · simp only [h, if_false]; omega
theorem wt_nil (o : List Int) : wt [] o = 0 := rfl
theorem gstep_lin (f : List Int → Int) (acc : List P) (p : P) : lin f (gstep acc p) = lin f acc + f p.f0 * p.f1 := by
  by_cases hz : p.f1 = 0
  · rw [gstep_zero hz, hz]; omega
  · rcases List.eq_nil_or_concat acc with rfl | ⟨a, x, rfl⟩
    · rw [gstep_nil hz]; simp
    · simp only [List.concat_eq_append]
      by_cases he : x.f0 = p.f0
      · rw [gstep_eq hz he, lin_append, lin_append, lin_cons, lin_cons, lin_nil, ← he]
        show _ + (f x.f0 * (x.f1 + p.f1) + 0) = _
        rw [Int.mul_add]; omega
      · rw [gstep_ne hz he, lin_append (l := a ++ [x]), lin_cons, lin_nil, Int.add_zero]
theorem gath_lin (f : List Int → Int) (l : List P) : ∀ acc, lin f (gath acc l) = lin f acc + lin f l := by
  induction l with
  | nil => intro acc; simp [gath]
  | cons p l ih =>
    intro acc
    show lin f (gath (gstep acc p) l) = _
    rw [ih, gstep_lin, lin_cons]; omega
def Strict (d : List P) : Prop := d.Pairwise (fun x y => cmpL x.f0 y.f0 < 0)
def Sorted (d : List P) : Prop := d.Pairwise (fun x y => ¬ cmpL y.f0 x.f0 < 0)
theorem cmp_lt_of {x y : List Int} (h : ¬ cmpL y x < 0) (hne : x ≠ y) : cmpL x y < 0 := by
  have h1 := cmpL_neg x y
  have h2 := cmpL_zero x y
  rcases Int.lt_trichotomy (cmpL x y) 0 with q | q | q
  · exact q
  · exact absurd (h2 q) hne
  · omega
theorem cmp_ne {x y : List Int} (h : cmpL x y < 0) : x ≠ y := fun e => by rw [e, cmpL_refl] at h; omega
theorem cmp_asym {x y : List Int} (h : cmpL x y < 0) : ¬ cmpL y x < 0 := by have := cmpL_neg x y; omega
theorem Strict.sorted {d : List P} (h : Strict d) : Sorted d := h.imp (fun h => cmp_asym h)
theorem gath_strict (l : List P) : ∀ acc, Strict acc → Sorted l → (∀ q ∈ acc, ∀ p ∈ l, ¬ cmpL p.f0 q.f0 < 0) → Strict (gath acc l) := by
  induction l with
  | nil => intro acc h _ _; exact h
  | cons p l ih =>
    intro acc ha hl hq
    have hl1 := (List.pairwise_cons.1 hl).1
    have hl2 := (List.pairwise_cons.1 hl).2
    show Strict (gath (gstep acc p) l)
    have hq' : ∀ q ∈ acc, ∀ x ∈ l, ¬ cmpL x.f0 q.f0 < 0 := fun q h x hx => hq q h x (List.mem_cons_of_mem _ hx)
    by_cases hz : p.f1 = 0
    · rw [gstep_zero hz]; exact ih acc ha hl2 hq'
    · rcases List.eq_nil_or_concat acc with rfl | ⟨a, x, rfl⟩
      · rw [gstep_nil hz]
        refine ih [p] (by simp [Strict]) hl2 (fun q h y hy => ?_)
        obtain rfl := List.mem_singleton.1 h
        exact hl1 y hy
      · simp only [List.concat_eq_append] at ha hq hq' ⊢
        have ha' := List.pairwise_append.1 ha
        by_cases he : x.f0 = p.f0
        · rw [gstep_eq hz he]
          refine ih _ ?_ hl2 (fun q h y hy => ?_)
          · refine List.pairwise_append.2 ⟨ha'.1, by simp, fun u hu v hv => ?_⟩
            obtain rfl := List.mem_singleton.1 hv
            exact ha'.2.2 u hu x (by simp)
          · rcases List.mem_append.1 h with h | h
            · exact hq' q (List.mem_append_left _ h) y hy
            · obtain rfl := List.mem_singleton.1 h
              exact hq' x (by simp) y hy
        · rw [gstep_ne hz he]
          have hxp : cmpL x.f0 p.f0 < 0 := cmp_lt_of (hq x (by simp) p (List.mem_cons_self ..)) he
          refine ih _ ?_ hl2 (fun q h y hy => ?_)
          · refine List.pairwise_append.2 ⟨ha, by simp, fun u hu v hv => ?_⟩
            obtain rfl := List.mem_singleton.1 hv
            rcases List.mem_append.1 hu with hu | hu
            · exact cmpL_trans _ _ _ (ha'.2.2 u hu x (by simp)) hxp
            · obtain rfl := List.mem_singleton.1 hu
              exact hxp
          · rcases List.mem_append.1 h with h | h
            · exact hq' q h y hy
            · obtain rfl := List.mem_singleton.1 h
              exact hl1 y hy
theorem wt_nonneg {l : List P} (h : ∀ p ∈ l, 0 ≤ p.f1) (o : List Int) : 0 ≤ wt l o := by
  induction l with
  | nil => simp [wt_nil]
  | cons p l ih =>
    have h1 := h p (List.mem_cons_self ..)
    have := ih (fun q hq => h q (List.mem_cons_of_mem _ hq))
    rw [wt_cons]
    split <;> omega
theorem wt_zero {l : List P} {o : List Int} (h : ∀ p ∈ l, p.f0 ≠ o) : wt l o = 0 := by
  induction l with
  | nil => rfl
  | cons p l ih =>
    rw [wt_cons, if_neg (h p (List.mem_cons_self ..)), ih (fun q hq => h q (List.mem_cons_of_mem _ hq))]; rfl
theorem wt_head {p : P} {l : List P} (h : Strict (p :: l)) : wt (p :: l) p.f0 = p.f1 := by
  rw [wt_cons, if_pos rfl, wt_zero (fun q hq => (cmp_ne ((List.pairwise_cons.1 h).1 q hq)).symm)]; omega
theorem strict_unique : ∀ (d e : List P), Strict d → Strict e → (∀ p ∈ d, 0 < p.f1) → (∀ p ∈ e, 0 < p.f1) → (∀ o, wt d o = wt e o) → d = e := by
  intro d
  induction d with
  | nil =>
    intro e _ he _ h2 h
    cases e with
    | nil => rfl
    | cons q e =>
      have := h q.f0
      rw [wt_head he, wt_nil] at this
      have := h2 q (List.mem_cons_self ..)
      omega
  | cons p d ih =>
    intro e hd he h1 h2 h
    cases e with
    | nil =>
      have := h p.f0
      rw [wt_head hd, wt_nil] at this
      have := h1 p (List.mem_cons_self ..)
      omega
    | cons q e =>
      have hp := h1 p (List.mem_cons_self ..)
      have hq := h2 q (List.mem_cons_self ..)
      have hd' := List.pairwise_cons.1 hd
      have he' := List.pairwise_cons.1 he
      have hpq : p.f0 = q.f0 := by
        rcases Classical.em (p.f0 = q.f0) with c | c
        · exact c
        · exfalso
          by_cases c1 : cmpL p.f0 q.f0 < 0
          · have := h p.f0
            rw [wt_head hd, wt_zero] at this
            · omega
            · intro x hx
              rcases List.mem_cons.1 hx with rfl | hx
              · exact fun e => c e.symm
              · exact (cmp_ne (cmpL_trans _ _ _ c1 (he'.1 x hx))).symm
          · have c2 : cmpL q.f0 p.f0 < 0 := cmp_lt_of c1 (fun e => c e.symm)
            have := h q.f0
            rw [wt_head he, wt_zero] at this
            · omega
            · intro x hx
              rcases List.mem_cons.1 hx with rfl | hx
              · exact c
              · exact (cmp_ne (cmpL_trans _ _ _ c2 (hd'.1 x hx))).symm
      have hw : p.f1 = q.f1 := by
        have := h p.f0
        rw [wt_head hd, hpq, wt_head he] at this
        exact this
      have ht : d = e := ih e hd'.2 he'.2 (fun x hx => h1 x (List.mem_cons_of_mem _ hx)) (fun x hx => h2 x (List.mem_cons_of_mem _ hx)) (fun o => by
        have := h o
        rw [wt_cons, wt_cons, hpq, hw] at this
        omega)
      obtain ⟨a, b⟩ := p
      obtain ⟨c, e'⟩ := q
      cases hpq; cases hw; cases ht; rfl
theorem gath_self {d : List P} (h : Strict d) (hp : ∀ p ∈ d, 0 < p.f1) : gath [] d = d :=
  strict_unique _ _ (gath_strict d [] (by simp [Strict]) h.sorted (by simp)) h (gath_pos d [] (by simp) (fun p hp' => Int.le_of_lt (hp p hp'))).1 hp (fun o => by rw [wt, gath_lin, lin_nil, Int.zero_add]; rfl)
theorem gath_perm {l ys zs : List P} (h0 : ∀ p ∈ l, 0 ≤ p.f1) (h1 : PartsSorted l ys) (h2 : PartsSorted l zs) : gath [] ys = gath [] zs :=
  strict_unique _ _ (gath_strict ys [] (by simp [Strict]) h1.2 (by simp)) (gath_strict zs [] (by simp [Strict]) h2.2 (by simp)) (gath_pos ys [] (by simp) (fun p hp => h0 p (h1.1.mem_iff.1 hp))).1 (gath_pos zs [] (by simp) (fun p hp => h0 p (h2.1.mem_iff.1 hp))).1
    (fun o => by rw [wt, wt, gath_lin, gath_lin, lin_perm _ (h1.1.trans h2.1.symm)])
theorem rest_perm {l ys zs : List P} (h0 : ∀ p ∈ l, 0 ≤ p.f1) (h1 : PartsSorted l ys) (h2 : PartsSorted l zs) : rest ys = rest zs := by
  unfold rest; rw [gath_perm h0 h1 h2]
theorem tidy_ev {l ys : List P} (hl : l.length < 1099511627776) (h0 : ∀ p ∈ l, 0 ≤ p.f1) (hsmall : ∀ p ∈ l, p.f0.length ≤ 16) (hb : wsum l ≤ 4611686018427387904) (hy : PartsSorted l ys) : Ev (fun k => dist_tidy.f k l) (rest ys) := by
  obtain ⟨K, hK⟩ := uniform l (fun k zs => PartsSorted l zs → ∀ j, k ≤ j → dist_tidy_rest.f j zs = some (rest ys)) (fun k zs h hz j hj => h hz j (by omega)) (fun zs hz => by
    by_cases hs : PartsSorted l zs
    · obtain ⟨K, hK⟩ := rest_ev (ys := zs) (by rw [hz.length_eq]; omega) (fun p hp => h0 p (hz.mem_iff.1 hp)) (fun p hp => hsmall p (hz.mem_iff.1 hp)) (by rw [wsum_perm hz]; exact hb)
      exact ⟨K, fun _ j hj => by rw [rest_perm h0 hy hs]; exact hK j hj⟩
    · exact ⟨0, fun h => absurd h hs⟩)
  exact ⟨K, fun k hk => dist_tidy.f_of hl (fun zs hz => hK zs hz.1 k hk hz k (Nat.le_refl _))⟩
structure DistOK (d : List P) : Prop where
  strict : Strict d
  pos : ∀ p ∈ d, 0 < p.f1
  small : ∀ p ∈ d, SmallO p.f0
  gcd : gl 0 d = 1
  sum : wsum d ≤ 1073741824
  len : d.length ≤ 4096
  ne : d ≠ []
theorem over_one (d : List P) : over 1 d = d := by
  unfold over
  conv => rhs; rw [← List.map_id d]
  refine List.map_congr_left (fun p _ => ?_)
  rw [Int.ediv_one]; rfl
theorem rest_self {d : List P} (h : DistOK d) : rest d = (d, 0) := by
  unfold rest
  have h1 := h.sum
  have h2 := h.len
  simp only [gath_self h.strict h.pos, h.gcd]
  rw [if_neg h.ne, if_neg (by simp only [Int.natCast_one, Int.ediv_one]; omega)]
  rw [Int.natCast_one, over_one]
theorem over_lin {g : Int} (f : List Int → Int) {d : List P} (hg : ∀ p ∈ d, g ∣ p.f1) : lin f d = g * lin f (over g d) := by
  induction d with
  | nil => simp [over]
  | cons p d ih =>
    have e : over g (p :: d) = ⟨p.f0, p.f1 / g⟩ :: over g d := rfl
    rw [e, lin_cons, lin_cons, ih (fun q hq => hg q (List.mem_cons_of_mem _ hq)), Int.mul_add]
    congr 1
    show f p.f0 * p.f1 = g * (f p.f0 * (p.f1 / g))
    rw [Int.mul_left_comm, Int.mul_ediv_cancel' (hg p (List.mem_cons_self ..))]
theorem gl_over {d : List P} (h0 : ∀ p ∈ d, 0 ≤ p.f1) (hg : 0 < gl 0 d) : gl 0 (over (gl 0 d : Int) d) = 1 := by
  have h1 := gl_dvd (over (gl 0 d : Int) d) 0
  generalize he : gl 0 (over (gl 0 d : Int) d) = e at h1
  have h2 : e * gl 0 d ∣ gl 0 d := by
    refine dvd_gl d 0 (e * gl 0 d) (Nat.dvd_zero _) (fun p hp => ?_)
    have h3 := h1.2 ⟨p.f0, p.f1 / (gl 0 d : Int)⟩ (List.mem_map.2 ⟨p, hp, rfl⟩)
    obtain ⟨m, hm⟩ := Int.eq_ofNat_of_zero_le (h0 p hp)
    have h4 := (gl_dvd d 0).2 p hp
    simp only [hm, Int.toNat_natCast] at h3 h4 ⊢
    rw [← Int.natCast_ediv, Int.toNat_natCast] at h3
    have := Nat.mul_dvd_mul_right h3 (gl 0 d)
    rwa [Nat.div_mul_cancel h4] at this
  have h3 := Nat.le_of_dvd hg h2
  rcases Nat.lt_or_ge 1 e with q | q
  · have : 2 * gl 0 d ≤ e * gl 0 d := Nat.mul_le_mul_right _ q
    omega
  · rcases Nat.eq_zero_or_pos e with z | z
    · rw [z] at h2
      simp at h2
      omega
    · omega
theorem gath_mem (l : List P) : ∀ acc : List P, ∀ q ∈ gath acc l, (∃ p ∈ acc, p.f0 = q.f0) ∨ ∃ p ∈ l, p.f0 = q.f0 := by
  induction l with
  | nil => intro acc q hq; exact .inl ⟨q, hq, rfl⟩
  | cons p l ih =>
    intro acc q hq
    rcases ih (gstep acc p) q hq with ⟨x, hx, e⟩ | ⟨x, hx, e⟩
    · by_cases hz : p.f1 = 0
      · rw [gstep_zero hz] at hx; exact .inl ⟨x, hx, e⟩
      · rcases List.eq_nil_or_concat acc with rfl | ⟨a, y, rfl⟩
        · rw [gstep_nil hz] at hx
          obtain rfl := List.mem_singleton.1 hx
          exact .inr ⟨x, List.mem_cons_self .., e⟩
        · simp only [List.concat_eq_append] at hx ⊢
          by_cases he : y.f0 = p.f0
          · rw [gstep_eq hz he] at hx
            rcases List.mem_append.1 hx with hx | hx
            · exact .inl ⟨x, List.mem_append_left _ hx, e⟩
            · obtain rfl := List.mem_singleton.1 hx
              exact .inl ⟨y, by simp, e⟩
          · rw [gstep_ne hz he] at hx
            rcases List.mem_append.1 hx with hx | hx
            · exact .inl ⟨x, hx, e⟩
            · obtain rfl := List.mem_singleton.1 hx
              exact .inr ⟨x, List.mem_cons_self .., e⟩
    · exact .inr ⟨x, List.mem_cons_of_mem _ hx, e⟩
theorem rest_ok {ys : List P} (hs : Sorted ys) (h0 : ∀ p ∈ ys, 0 ≤ p.f1) (hsm : ∀ p ∈ ys, SmallO p.f0) {d : List P} (h : rest ys = (d, 0)) :
    DistOK d ∧ ∃ g : Int, 0 < g ∧ (∀ f, lin f ys = g * lin f d) ∧ d = over g (gath [] ys) ∧ (∀ p ∈ gath [] ys, g ∣ p.f1) := by
  have gs := gath_strict ys [] (by simp [Strict]) hs (by simp)
  obtain ⟨g1, g2, g3⟩ := gath_pos ys [] (by simp) h0
  have gm := gath_mem ys []
  have glin := fun f => gath_lin f ys []
  unfold rest at h
  generalize gath [] ys = D at *
  simp only at h
  split at h
  · next hD => simp at h
  · next hD =>
    split at h
    · next hc => simp at h
    · next hc =>
      have hd : over (gl 0 D : Int) D = d := by injection h
      have h0' : ∀ p ∈ D, 0 ≤ p.f1 := fun p hp => Int.le_of_lt (g1 p hp)
      have hdl : 0 < D.length := List.length_pos_iff.2 hD
      have hgp : 0 < gl 0 D := by
        rcases Nat.eq_zero_or_pos (gl 0 D) with h | h
        · have h1 := (gl_dvd D 0).2 D[0] (List.getElem_mem hdl)
          rw [h] at h1
          have := Nat.eq_zero_of_zero_dvd h1
          have := g1 D[0] (List.getElem_mem hdl)
          omega
        · exact h
      have hdv : ∀ p ∈ D, (gl 0 D : Int) ∣ p.f1 := fun p hp => by
        have := (gl_dvd D 0).2 p hp
        obtain ⟨m, hm⟩ := Int.eq_ofNat_of_zero_le (h0' p hp)
        rw [hm] at this ⊢
        exact Int.natCast_dvd_natCast.2 (by simpa using this)
      have hlin : ∀ f, lin f ys = (gl 0 D : Int) * lin f d := fun f => by
        have := glin f
        rw [lin_nil, Int.zero_add] at this
        rw [← this, over_lin f hdv, hd]
      refine ⟨?_, (gl 0 D : Int), by omega, hlin, hd.symm, hdv⟩
      subst hd
      refine ⟨?_, ?_, ?_, gl_over h0' hgp, ?_, ?_, ?_⟩
      · exact List.pairwise_map.2 gs
      · intro p hp
        obtain ⟨q, hq, rfl⟩ := List.mem_map.1 hp
        have h1 := g1 q hq
        obtain ⟨m, hm⟩ := hdv q hq
        show 0 < q.f1 / (gl 0 D : Int)
        rw [hm, Int.mul_ediv_cancel_left _ (by omega)]
        rw [hm] at h1
        exact Int.pos_of_mul_pos_right h1 (by omega)
      · intro p hp
        obtain ⟨q, hq, rfl⟩ := List.mem_map.1 hp
        rcases gm q hq with ⟨x, hx, _⟩ | ⟨x, hx, e⟩
        · simp at hx
        · show SmallO q.f0
          rw [← e]; exact hsm x hx
      · have h1 := over_lin (fun _ => 1) hdv
        rw [lin_one, lin_one] at h1
        rw [h1, Int.mul_ediv_cancel_left _ (by omega)] at hc
        omega
      · have : (over (gl 0 D : Int) D).length = D.length := by simp [over]
        omega
      · intro e
        have : (over (gl 0 D : Int) D).length = D.length := by simp [over]
        rw [e] at this
        simp at this
        omega
structure PartsOK (l : List P) : Prop where
  len : l.length ≤ 1073741824
  small : ∀ p ∈ l, SmallO p.f0
  low : ∀ p ∈ l, 0 ≤ p.f1
  high : ∀ p ∈ l, p.f1 ≤ 1073741824
theorem wsum_le {l : List P} {B : Int} (h : ∀ p ∈ l, p.f1 ≤ B) : wsum l ≤ B * l.length := by
  induction l with
  | nil => simp
  | cons p l ih =>
    have h1 := h p (List.mem_cons_self ..)
    have h2 := ih (fun q hq => h q (List.mem_cons_of_mem _ hq))
    rw [wsum_cons, List.length_cons, Int.natCast_add, Int.mul_add]
    simp only [Int.natCast_one, Int.mul_one]
    omega
theorem PartsOK.sum {l : List P} (h : PartsOK l) : wsum l ≤ 4611686018427387904 := by
  have h1 := wsum_le h.high
  have h2 := h.len
  have : (1073741824 : Int) * l.length ≤ 1073741824 * 1073741824 := Int.mul_le_mul_of_nonneg_left (by omega) (by decide)
  omega
theorem make_go {l : List P} (h : PartsOK l) (r : List P × Int) (hr : Ev (fun k => dist_tidy.f k l) r) : ∀ (n i : Nat) (acc : List P), l.length - i = n → i ≤ l.length → acc = l.take i →
    Ev (fun k => dist_Make.l0 k acc l (l.length : Int) (i : Int)) r := by
  have hlen := h.len
  intro n
  induction n with
  | zero =>
    intro i acc hn hi ha
    rw [List.take_of_length_le (by omega)] at ha
    subst ha
    refine Ev.step (fun k => ?_) (Ev.bind hr (f := fun _ t => some (t.1, t.2)) (Ev.now _))
    rw [dist_Make.l0, if_neg (by omega)]
  | succ n ih =>
    intro i acc hn hi ha
    have hlt : i < l.length := by omega
    have I := ih (i + 1) (l.take (i + 1)) (by omega) (by omega) rfl
    have hS := h.small l[i] (List.getElem_mem hlt)
    have h1 := h.low l[i] (List.getElem_mem hlt)
    have h2 := h.high l[i] (List.getElem_mem hlt)
    have hal : acc.length < 4398046511104 := by rw [ha, List.length_take]; omega
    have hC : slices_Clone_int_int.f l[i].f0 = some l[i].f0 := by rw [slices_Clone_int_int.f, if_pos (by have := hS.1; omega)]
    have e : acc ++ [(⟨l[i].f0, l[i].f1⟩ : P)] = l.take (i + 1) := by rw [ha, List.take_succ_eq_append_getElem hlt]
    have c1 : (i : Int) < (l.length : Int) := by omega
    have c2 : (0 : Int) ≤ (i : Int) := by omega
    have wi : wrap64 ((i : Int) + 1) = ((i + 1 : Nat) : Int) := by rw [w64 (by omega) (by omega)]; rfl
    refine Ev.step (fun k => ?_) (Ev.bind (small_ev hS) (f := fun k t => if t = true then dist_Make.l0 k (l.take (i + 1)) l (l.length : Int) ((i + 1 : Nat) : Int) else some (([] : List P), 3)) (Ev.congr (fun k => if_pos rfl) I))
    rw [dist_Make.l0, if_pos c1, if_pos c2, if_pos c1, rdT_nat hlt]
    congr 1
    funext t
    cases t with
    | true => rw [if_pos rfl, if_pos rfl, if_neg (by omega), if_neg (by omega), hC, Option.bind_some, if_pos hal, e, wi]
    | false => rfl
theorem make_ev {l ys : List P} (h : PartsOK l) (hy : PartsSorted l ys) : Ev (fun k => dist_Make.f k l) (rest ys) := by
  have hlen := h.len
  exact Ev.congr (fun _ => rfl) (make_go h _ (tidy_ev (by omega) h.low (fun p hp => (h.small p hp).1) h.sum hy) l.length 0 [] (by omega) (by omega) rfl)
theorem DistOK.parts {d : List P} (h : DistOK d) : PartsOK d := by
  have h1 := h.len
  have h2 := h.sum
  refine ⟨by omega, h.small, fun p hp => Int.le_of_lt (h.pos p hp), fun p hp => ?_⟩
  have := wsum_mem (fun p hp => Int.le_of_lt (h.pos p hp)) hp
  omega
theorem make_self {d : List P} (h : DistOK d) : Ev (fun k => dist_Make.f k d) (d, 0) := by
  rw [← rest_self h]
  exact make_ev h.parts ⟨.refl _, h.strict.sorted⟩
theorem same_go (d : List P) (hl : d.length ≤ 4611686018427387904) (hs : ∀ p ∈ d, p.f0.length ≤ 16) : ∀ (n i : Nat), d.length - i = n → i ≤ d.length →
    Ev (fun k => api_Part_dist_same_1.l0 k d d (d.length : Int) (i : Int)) true := by
  intro n
  induction n with
  | zero =>
    intro i hn hi
    refine Ev.step (f := fun _ => some true) (fun k => ?_) (Ev.now _)
    rw [api_Part_dist_same_1.l0, if_neg (by omega)]
  | succ n ih =>
    intro i hn hi
    have hlt : i < d.length := by omega
    have hE : Ev (fun k => dist_same_1.f k d[i].f0 d[i].f1 d[i].f0 d[i].f1) true := by
      have := equal_ev d[i].f0 d[i].f0 (Nat.le_trans (hs _ (List.getElem_mem hlt)) (by decide))
      rw [decide_eq_true rfl] at this
      refine Ev.congr (fun k => ?_) (Ev.bind this (f := fun _ t => some t) (Ev.now _))
      rw [dist_same_1.f, if_pos rfl]
    refine Ev.step (fun k => ?_) (Ev.bind hE (f := fun k t => if t = true then api_Part_dist_same_1.l0 k d d (d.length : Int) ((i + 1 : Nat) : Int) else some false) (Ev.congr (fun k => if_pos rfl) (ih (i + 1) (by omega) (by omega))))
    rw [api_Part_dist_same_1.l0, if_pos (by omega), if_pos (by omega), if_pos (by omega), if_pos (by omega), rdT_nat hlt, w64 (by omega) (by omega)]
    rfl
theorem same_self {d : List P} (h : DistOK d) : Ev (fun k => dist_same.f k d d) true := by
  have hlen := h.len
  refine Ev.congr (fun k => ?_) (Ev.bind (same_go d (by omega) (fun p hp => (h.small p hp).1) d.length 0 (by omega) (by omega)) (f := fun _ t => some t) (Ev.now _))
  rw [dist_same.f, api_Part_dist_same_1.f, if_pos rfl]
  rfl
theorem wrong_ok {d : List P} (h : DistOK d) : Ev (fun k => dist_Wrong.f k d) 0 := by
  refine Ev.congr (fun k => ?_) (Ev.bind (make_self h) (f := fun k bt231 => (if bt231.2 = 0 then ((dist_same.f k d bt231.1).bind fun t235 => (if t235 = true then (some bt231.2) else (some 2))) else (some bt231.2))) ?_)
  · rw [dist_Wrong.f]
  · refine Ev.congr (fun k => ?_) (Ev.bind (same_self h) (f := fun k t => if t = true then some 0 else some 2) (Ev.congr (fun _ => if_pos rfl) (Ev.now _)))
    rw [if_pos rfl]
theorem wrongs_ok {a b : List P} (ha : DistOK a) (hb : DistOK b) : Ev (fun k => dist_wrongs.f k [a, b]) 0 := by
  have h2 : Ev (fun k => dist_wrongs.l0 k [a, b] 2 2) 0 := by
    refine Ev.step (f := fun _ => some 0) (fun k => ?_) (Ev.now _)
    rw [dist_wrongs.l0, if_neg (by decide)]
  have h1 : Ev (fun k => dist_wrongs.l0 k [a, b] 2 1) 0 := by
    refine Ev.step (fun k => ?_) (Ev.bind (wrong_ok hb) (f := fun k t => if t = 0 then dist_wrongs.l0 k [a, b] 2 2 else some t) (Ev.congr (fun _ => if_pos rfl) h2))
    rw [dist_wrongs.l0, if_pos (by decide), if_pos (by decide), if_pos (by simp), show rd_L3 [a, b] 1 = b from rfl, show wrap64 (1 + 1) = 2 from w64 (x := 1 + 1) (by decide) (by decide)]
  have h0 : Ev (fun k => dist_wrongs.l0 k [a, b] 2 0) 0 := by
    refine Ev.step (fun k => ?_) (Ev.bind (wrong_ok ha) (f := fun k t => if t = 0 then dist_wrongs.l0 k [a, b] 2 1 else some t) (Ev.congr (fun _ => if_pos rfl) h1))
    rw [dist_wrongs.l0, if_pos (by decide), if_pos (by decide), if_pos (by simp), show rd_L3 [a, b] 0 = a from rfl, show wrap64 (0 + 1) = 1 from w64 (x := 0 + 1) (by decide) (by decide)]
  exact Ev.congr (fun _ => rfl) h0
theorem fr_trans {a b c d e f : Int} (hb : 0 ≤ b) (hd : 0 < d) (hf : 0 ≤ f) (h1 : a * d ≤ c * b) (h2 : c * f ≤ e * d) : a * f ≤ e * b := by
  have k1 : a * d * f ≤ c * b * f := Int.mul_le_mul_of_nonneg_right h1 hf
  have k2 : c * f * b ≤ e * d * b := Int.mul_le_mul_of_nonneg_right h2 hb
  have e1 : a * d * f = a * f * d := Int.mul_right_comm a d f
  have e2 : c * b * f = c * f * b := Int.mul_right_comm c b f
  have e3 : e * d * b = e * b * d := Int.mul_right_comm e d b
  exact Int.le_of_mul_le_mul_right (by omega) hd
theorem gcd_over {u v : Int} (hv : 0 < v) : Int.gcd (u / (Int.gcd u v : Nat)) (v / (Int.gcd u v : Nat)) = 1 := by
  have hg : 0 < Int.gcd u v := Int.gcd_pos_of_ne_zero_right u (by omega)
  exact Int.gcd_ediv_gcd_ediv_gcd hg
structure FarSt (ta tb : Int) (s p s1 : Int × Int) : Prop where
  pos : PosS s1
  cop : Int.gcd s1.1 s1.2 = 1
  up : s.1 * s1.2 ≤ s1.1 * s.2
  at1 : p.1 * tb * s1.2 ≤ s1.1 * (p.2 * ta)
  at2 : p.2 * ta * s1.2 ≤ s1.1 * (p.1 * tb)
  least : ∀ P Q : Int, s.1 * Q ≤ P * s.2 → p.1 * tb * Q ≤ P * (p.2 * ta) → p.2 * ta * Q ≤ P * (p.1 * tb) → s1.1 * Q ≤ P * s1.2
theorem farStep_spec {ta tb : Int} {s p : Int × Int} (h : FarB ta tb p) (hs : PosS s) (hc : Int.gcd s.1 s.2 = 1) : FarSt ta tb s p (farStep ta tb s p) := by
  have hp := farStep_pos h hs
  obtain ⟨s1, s2, s3, s4⟩ := hs
  obtain ⟨A, hA⟩ := h.gu
  obtain ⟨B, hB⟩ := h.gv
  have g1 := h.g1
  have eA : fU ta tb p / fg ta tb p = A := by rw [hA, Int.mul_ediv_cancel_left _ (by omega)]
  have eB : fV ta tb p / fg ta tb p = B := by rw [hB, Int.mul_ediv_cancel_left _ (by omega)]
  have hgc : Int.gcd A B = 1 := by
    have := gcd_over (u := fU ta tb p) (v := fV ta tb p) h.v1
    unfold fg at eA eB
    rwa [eA, eB] at this
  have qA := h.qu
  have qB := h.qv
  have vu := h.vu
  have v1 := h.v1
  rw [eA] at qA
  rw [eB] at qB
  have base : ∀ x y : Int, 0 < x → 0 < y → fU ta tb p * y ≤ x * fV ta tb p → p.1 * tb * y ≤ x * (p.2 * ta) ∧ p.2 * ta * y ≤ x * (p.1 * tb) := by
    intro x y hx hy hle
    have k1 : fV ta tb p * y ≤ fU ta tb p * y := Int.mul_le_mul_of_nonneg_right vu (by omega)
    have k2 : x * fV ta tb p ≤ x * fU ta tb p := Int.mul_le_mul_of_nonneg_left vu (by omega)
    by_cases c : p.1 * tb < p.2 * ta
    · have eu : fU ta tb p = p.2 * ta := by unfold fU; rw [if_pos c]
      have ev : fV ta tb p = p.1 * tb := by unfold fV; rw [if_pos c]
      rw [eu, ev] at hle k1 k2
      exact ⟨by omega, hle⟩
    · have eu : fU ta tb p = p.1 * tb := by unfold fU; rw [if_neg c]
      have ev : fV ta tb p = p.2 * ta := by unfold fV; rw [if_neg c]
      rw [eu, ev] at hle k1 k2
      exact ⟨hle, by omega⟩
  have hle : ∀ P Q : Int, p.1 * tb * Q ≤ P * (p.2 * ta) → p.2 * ta * Q ≤ P * (p.1 * tb) → A * Q ≤ P * B := by
    intro P Q k1 k2
    have k3 : fU ta tb p * Q ≤ P * fV ta tb p := by
      by_cases c : p.1 * tb < p.2 * ta
      · unfold fU fV; rw [if_pos c, if_pos c]; exact k2
      · unfold fU fV; rw [if_neg c, if_neg c]; exact k1
    rw [hA, hB, Int.mul_assoc, Int.mul_left_comm P] at k3
    exact Int.le_of_mul_le_mul_left k3 g1
  have hAB : fU ta tb p * B = A * fV ta tb p := by rw [hA, hB, Int.mul_assoc, Int.mul_left_comm A]
  unfold farStep at hp ⊢
  rw [eA, eB] at hp ⊢
  by_cases c : s.1 * B < A * s.2
  · rw [if_pos c] at hp ⊢
    obtain ⟨b1, b2⟩ := base A B qA qB (Int.le_of_eq hAB)
    exact ⟨hp, hgc, Int.le_of_lt c, b1, b2, fun P Q _ k1 k2 => hle P Q k1 k2⟩
  · rw [if_neg c] at hp ⊢
    have k : fU ta tb p * s.2 ≤ s.1 * fV ta tb p := by
      rw [hA, hB, Int.mul_assoc, Int.mul_left_comm s.1]
      exact Int.mul_le_mul_of_nonneg_left (by omega) (by omega)
    obtain ⟨b1, b2⟩ := base s.1 s.2 s1 s3 k
    exact ⟨hp, hc, Int.le_refl _, b1, b2, fun P Q k1 _ _ => k1⟩
structure FarRes (ta tb : Int) (l : List (Int × Int)) (s0 s : Int × Int) : Prop where
  pos : PosS s
  cop : Int.gcd s.1 s.2 = 1
  up : s0.1 * s.2 ≤ s.1 * s0.2
  at1 : ∀ p ∈ l, p.1 * tb * s.2 ≤ s.1 * (p.2 * ta)
  at2 : ∀ p ∈ l, p.2 * ta * s.2 ≤ s.1 * (p.1 * tb)
  least : ∀ P Q : Int, s0.1 * Q ≤ P * s0.2 → (∀ p ∈ l, p.1 * tb * Q ≤ P * (p.2 * ta) ∧ p.2 * ta * Q ≤ P * (p.1 * tb)) → s.1 * Q ≤ P * s.2
theorem farGo_spec {ta tb : Int} (ha : 0 < ta) (ha2 : ta ≤ 1073741824) (hb : 0 < tb) (hb2 : tb ≤ 1073741824) (l : List (Int × Int)) :
    ∀ s0 : Int × Int, (∀ p ∈ l, 0 < p.1 ∧ p.1 ≤ 1073741824 ∧ 0 < p.2 ∧ p.2 ≤ 1073741824) → PosS s0 → Int.gcd s0.1 s0.2 = 1 → ∃ s, farGo ta tb l s0 = some s ∧ FarRes ta tb l s0 s := by
  induction l with
  | nil => intro s0 _ h1 h2; exact ⟨s0, rfl, h1, h2, Int.le_refl _, by simp, by simp, fun P Q h _ => h⟩
  | cons p l ih =>
    intro s0 hl h1 h2
    obtain ⟨p1, p2, p3, p4⟩ := hl p (List.mem_cons_self ..)
    have B := farB (p := p) p1 p2 p3 p4 ha ha2 hb hb2
    have S := farStep_spec B h1 h2
    obtain ⟨s, hs, R⟩ := ih (farStep ta tb s0 p) (fun q hq => hl q (List.mem_cons_of_mem _ hq)) S.pos S.cop
    obtain ⟨r1, r2, r3, r4⟩ := R.pos
    obtain ⟨t1, t2, t3, t4⟩ := S.pos
    obtain ⟨u1, u2, u3, u4⟩ := h1
    have m1 : 0 < p.1 * tb := Int.mul_pos p1 hb
    have m2 : 0 < p.2 * ta := Int.mul_pos p3 ha
    refine ⟨s, ?_, R.pos, R.cop, fr_trans (by omega) t3 (by omega) S.up R.up, fun q hq => ?_, fun q hq => ?_, fun P Q k1 k2 => ?_⟩
    · show (if p.1 = 0 ∨ p.2 = 0 then none else farGo ta tb l (farStep ta tb s0 p)) = some s
      rw [if_neg (by omega), hs]
    · rcases List.mem_cons.1 hq with rfl | hq
      · exact fr_trans (Int.le_of_lt m2) t3 (by omega) S.at1 R.up
      · exact R.at1 q hq
    · rcases List.mem_cons.1 hq with rfl | hq
      · exact fr_trans (Int.le_of_lt m1) t3 (by omega) S.at2 R.up
      · exact R.at2 q hq
    · exact R.least P Q (S.least P Q k1 (k2 p (List.mem_cons_self ..)).1 (k2 p (List.mem_cons_self ..)).2) (fun q hq => k2 q (List.mem_cons_of_mem _ hq))
theorem coprime_eq {a b p q : Int} (hb : 0 < b) (hq : 0 < q) (ha : 0 < a) (hp : 0 < p) (h1 : Int.gcd a b = 1) (h2 : Int.gcd p q = 1) (h : a * q = p * b) : a = p ∧ b = q := by
  obtain ⟨a, rfl⟩ := Int.eq_ofNat_of_zero_le (Int.le_of_lt ha)
  obtain ⟨b, rfl⟩ := Int.eq_ofNat_of_zero_le (Int.le_of_lt hb)
  obtain ⟨p, rfl⟩ := Int.eq_ofNat_of_zero_le (Int.le_of_lt hp)
  obtain ⟨q, rfl⟩ := Int.eq_ofNat_of_zero_le (Int.le_of_lt hq)
  have h' : a * q = p * b := by exact_mod_cast h
  have h1' : Nat.Coprime a b := h1
  have h2' : Nat.Coprime p q := h2
  have d1 : a ∣ p := h1'.dvd_of_dvd_mul_right ⟨q, h'.symm⟩
  have d2 : p ∣ a := h2'.dvd_of_dvd_mul_right ⟨b, h'⟩
  have e : a = p := Nat.dvd_antisymm d1 d2
  subst e
  have : b = q := Nat.eq_of_mul_eq_mul_left (by omega) h'.symm
  exact ⟨rfl, by rw [this]⟩
theorem cmp_self_not (x : List Int) : ¬ cmpL x x < 0 := by rw [cmpL_refl]; omega
theorem mg_same : ∀ (n : Nat) (a b : List P), a.map (·.f0) = b.map (·.f0) → a.length ≤ n → mg n a b = List.zip (a.map (·.f1)) (b.map (·.f1)) := by
  intro n
  induction n with
  | zero =>
    intro a b h hn
    obtain rfl : a = [] := List.eq_nil_of_length_eq_zero (by omega)
    rfl
  | succ n ih =>
    intro a b h hn
    cases a with
    | nil =>
      cases b with
      | nil => rfl
      | cons q b => simp at h
    | cons p a =>
      cases b with
      | nil => simp at h
      | cons q b =>
        simp only [List.map_cons, List.cons.injEq] at h
        simp only [List.length_cons] at hn
        simp only [mg]
        rw [if_neg (by rw [h.1]; exact cmp_self_not _), if_neg (by rw [h.1, cmpL_refl]; omega), ih a b h.2 (by omega)]
        rfl
theorem DistOK.fit {a : List P} (h : DistOK a) : FitW a := fun p hp => by
  have h1 := h.pos p hp
  have h2 := wsum_mem (fun p hp => Int.le_of_lt (h.pos p hp)) hp
  have h3 := h.sum
  exact ⟨by omega, by omega, (h.small p hp).1⟩
theorem DistOK.sum_pos {a : List P} (h : DistOK a) : 0 < wsum a := by
  obtain ⟨p, hp⟩ := List.exists_mem_of_ne_nil _ h.ne
  have h1 := h.pos p hp
  have h2 := wsum_mem (fun p hp => Int.le_of_lt (h.pos p hp)) hp
  omega
theorem far_same {a b : List P} (ha : DistOK a) (hb : DistOK b) (h : a.map (·.f0) = b.map (·.f0)) :
    ∃ s, FarRes (wsum a) (wsum b) (List.zip (a.map (·.f1)) (b.map (·.f1))) (1, 1) s ∧ Ev (fun k => dist_Far.f k a b) (farEnd (some s)) := by
  have la := ha.len
  have lb := hb.len
  have fa := ha.fit
  have fb := hb.fit
  obtain ⟨s, hs, R⟩ := farGo_spec ha.sum_pos ha.sum hb.sum_pos hb.sum (List.zip (a.map (·.f1)) (b.map (·.f1))) (1, 1) (fun p hp => by
    obtain ⟨h1, h2⟩ := List.of_mem_zip hp
    obtain ⟨x, hx, e1⟩ := List.mem_map.1 h1
    obtain ⟨y, hy, e2⟩ := List.mem_map.1 h2
    have := fa x hx; have := fb y hy; have := ha.pos x hx; have := hb.pos y hy
    exact ⟨by omega, by omega, by omega, by omega⟩) ⟨by decide, by decide, by decide, by decide⟩ (by decide)
  refine ⟨s, R, ?_⟩
  have sa := ha.sum; have sb := hb.sum
  obtain ⟨K1, k1⟩ := wrongs_ok ha hb
  obtain ⟨K2, k2⟩ := total_ev (l := a) (by omega) (fun p hp => Int.le_of_lt (ha.pos p hp)) (by omega)
  obtain ⟨K3, k3⟩ := total_ev (l := b) (by omega) (fun p hp => Int.le_of_lt (hb.pos p hp)) (by omega)
  refine ⟨K1 + K2 + K3, fun k hk => ?_⟩
  have := dist_Far.f_of (k1 k (by omega)) (k2 k (by omega)) (k3 k (by omega)) ⟨fa, fb, la, lb, ha.sum_pos, ha.sum, hb.sum_pos, hb.sum⟩
  rw [mg_same _ a b h (by omega), hs] at this
  exact this
def lossV (u d : Int) : Int := if RightR u d then (if u < d then 3 else 0) else 2
theorem loss_ev (u d : Int) : Ev (fun k => noise_loss.f k u d) (lossV u d) := by
  refine Ev.congr (fun k => ?_) (Ev.bind (right_ev u d) (f := fun _ t => if t = true then (if u < d then (some 3) else (some 0)) else (some 2)) ?_)
  · rw [noise_loss.f]
  · unfold lossV
    by_cases h : RightR u d
    · rw [if_pos h]
      refine Ev.congr (f := fun _ => some (if u < d then 3 else 0)) (fun _ => ?_) (Ev.now _)
      rw [decide_eq_true h, if_pos rfl]
      split <;> rfl
    · rw [if_neg h]
      refine Ev.congr (f := fun _ => some 2) (fun _ => ?_) (Ev.now _)
      rw [decide_eq_false h, if_neg (by decide)]
theorem loss_zero {u d : Int} (h : lossV u d = 0) : RightR u d ∧ d ≤ u := by
  unfold lossV at h
  split at h
  · next h1 =>
    split at h
    · simp at h
    · exact ⟨h1, by omega⟩
  · simp at h
def sayL (u d : Int) (n t : Nat) : List P := (List.range n).map fun (i : Nat) => (⟨[(i : Int)], if i = t then u else d⟩ : P)
structure SayOK (u d many t : Int) : Prop where
  right : RightR u d
  le : d ≤ u
  m1 : 1 ≤ many
  m2 : many ≤ 4096
  t1 : 0 ≤ t
  t2 : t < many
  much : u + (many - 1) * d ≤ 1073741824
theorem say_mul {u d many t : Int} (h : SayOK u d many t) : 0 ≤ (many - 1) * d ∧ (many - 1) * d ≤ 1073741824 := by
  have h1 := h.right
  have h2 := h.much
  obtain ⟨r1, r2, _⟩ := h1
  have h3 := h.m1
  have : 0 ≤ (many - 1) * d := Int.mul_nonneg (by omega) (by omega)
  exact ⟨this, by omega⟩
theorem sayL_length (u d : Int) (n t : Nat) : (sayL u d n t).length = n := by simp [sayL]
theorem sayL_get (u d : Int) (n t i : Nat) (h : i < (sayL u d n t).length) : (sayL u d n t)[i] = ⟨[(i : Int)], if i = t then u else d⟩ := by simp [sayL]
theorem sayL_strict (u d : Int) (n t : Nat) : Strict (sayL u d n t) := by
  refine List.pairwise_iff_getElem.2 (fun i j hi hj hij => ?_)
  rw [sayL_get, sayL_get]
  simp only [cmpL]
  rw [if_pos (by omega)]
  decide
theorem sayL_mem {u d : Int} {n t : Nat} {p : P} (h : p ∈ sayL u d n t) : ∃ i : Nat, i < n ∧ p = ⟨[(i : Int)], if i = t then u else d⟩ := by
  obtain ⟨i, hi, e⟩ := List.mem_map.1 h
  exact ⟨i, List.mem_range.1 hi, e.symm⟩
theorem sayL_wsum (u d : Int) (n t : Nat) (ht : t < n) : wsum (sayL u d n t) = u + ((n : Int) - 1) * d := by
  have gen : ∀ m : Nat, wsum (sayL u d m t) = (m : Int) * d + (if t < m then u - d else 0) := by
    intro m
    induction m with
    | zero => simp [sayL]
    | succ m ih =>
      have e : sayL u d (m + 1) t = sayL u d m t ++ [⟨[(m : Int)], if m = t then u else d⟩] := by
        unfold sayL
        rw [List.range_succ, List.map_append]
        rfl
      have e2 : ((m + 1 : Nat) : Int) * d = (m : Int) * d + d := by rw [Int.natCast_add, Int.add_mul]; simp
      rw [e, wsum_append, ih, wsum_cons, wsum_nil, e2]
      generalize (m : Int) * d = X
      show X + (if t < m then u - d else 0) + ((if m = t then u else d) + 0) = X + d + (if t < m + 1 then u - d else 0)
      by_cases h1 : t < m
      · rw [if_pos h1, if_pos (show t < m + 1 by omega), if_neg (show ¬ m = t by omega)]; omega
      · by_cases h2 : m = t
        · rw [if_neg h1, if_pos h2, if_pos (show t < m + 1 by omega)]; omega
        · rw [if_neg h1, if_neg h2, if_neg (show ¬ t < m + 1 by omega)]; omega
  rw [gen n, if_pos ht, Int.sub_mul]
  omega
theorem sayL_parts {u d many t : Int} (h : SayOK u d many t) : PartsOK (sayL u d many.toNat t.toNat) ∧ (∀ p ∈ sayL u d many.toNat t.toNat, 0 < p.f1) := by
  obtain ⟨r1, r2, r3, r4, r5⟩ := h.right
  have h1 := h.le; have h2 := h.m1; have h3 := h.m2; have h4 := h.t1; have h5 := h.t2
  have pos : ∀ p ∈ sayL u d many.toNat t.toNat, 0 < p.f1 ∧ p.f1 ≤ 1073741824 := by
    intro p hp
    obtain ⟨i, hi, rfl⟩ := sayL_mem hp
    show 0 < (if i = t.toNat then u else d) ∧ (if i = t.toNat then u else d) ≤ 1073741824
    split <;> omega
  refine ⟨⟨by rw [sayL_length]; omega, fun p hp => ?_, fun p hp => Int.le_of_lt (pos p hp).1, fun p hp => (pos p hp).2⟩, fun p hp => (pos p hp).1⟩
  obtain ⟨i, hi, rfl⟩ := sayL_mem hp
  refine ⟨by simp, fun n hn => ?_⟩
  obtain rfl := List.mem_singleton.1 hn
  omega
theorem sayL_rest {u d many t : Int} (h : SayOK u d many t) : ∃ g : Int, 0 < g ∧ (∀ p ∈ sayL u d many.toNat t.toNat, g ∣ p.f1) ∧ rest (sayL u d many.toNat t.toNat) = (over g (sayL u d many.toNat t.toNat), 0) ∧ DistOK (over g (sayL u d many.toNat t.toNat)) := by
  obtain ⟨hP, hpos⟩ := sayL_parts h
  have hS := sayL_strict u d many.toNat t.toNat
  have hlen := sayL_length u d many.toNat t.toNat
  have h2 := h.m1; have h3 := h.m2; have h4 := h.t1; have h5 := h.t2; have h6 := h.much
  have hw := sayL_wsum u d many.toNat t.toNat (by omega)
  generalize sayL u d many.toNat t.toNat = L at *
  have hgs := gath_self hS hpos
  have hgp : 0 < gl 0 L := by
    rcases Nat.eq_zero_or_pos (gl 0 L) with z | z
    · have hl : 0 < L.length := by omega
      have d1 := (gl_dvd L 0).2 L[0] (List.getElem_mem hl)
      rw [z] at d1
      have := Nat.eq_zero_of_zero_dvd d1
      have := hpos L[0] (List.getElem_mem hl)
      omega
    · exact z
  have hr : rest L = (over (gl 0 L : Int) L, 0) := by
    have hle : wsum L / (gl 0 L : Int) ≤ wsum L := Int.ediv_le_self _ (wsum_nonneg (fun p hp => Int.le_of_lt (hpos p hp)))
    have hm : ((many.toNat : Int) - 1) * d = (many - 1) * d := by rw [Int.toNat_of_nonneg (by omega)]
    rw [hm] at hw
    unfold rest
    simp only [hgs]
    rw [if_neg (by intro e; rw [e] at hlen; simp at hlen; omega), if_neg (by omega)]
  obtain ⟨D, g, hg, hlin, hd, hdv⟩ := rest_ok hS.sorted hP.low hP.small hr
  rw [hgs] at hdv
  refine ⟨(gl 0 L : Int), by omega, ?_, hr, D⟩
  intro p hp
  have d1 := (gl_dvd L 0).2 p hp
  obtain ⟨m, hm⟩ := Int.eq_ofNat_of_zero_le (hP.low p hp)
  rw [hm] at d1 ⊢
  exact Int.natCast_dvd_natCast.2 (by simpa using d1)
theorem set_replicate_get (u d : Int) (n t i : Nat) (h : i < ((List.replicate n d).set t u).length) : ((List.replicate n d).set t u)[i] = if i = t then u else d := by
  rw [List.getElem_set]
  by_cases e : t = i
  · rw [if_pos e, if_pos e.symm]
  · rw [if_neg e, if_neg (fun q => e q.symm)]; simp
theorem respond_go {u d : Int} {n t : Nat} (hn : n ≤ 4096) (ht : t < n) (r : List P × Int) (hr : Ev (fun k => dist_Make.f k (sayL u d n t)) r) : ∀ (m i : Nat) (acc : List P), n - i = m → i ≤ n → acc = (sayL u d n t).take i →
    Ev (fun k => noise_Respond.l0 k acc ((List.replicate n d).set t u) (n : Int) (i : Int)) r := by
  intro m
  induction m with
  | zero =>
    intro i acc hm hi ha
    rw [List.take_of_length_le (by rw [sayL_length]; omega)] at ha
    subst ha
    refine Ev.step (fun k => ?_) (Ev.bind hr (f := fun _ t => some (t.1, t.2)) (Ev.now _))
    rw [noise_Respond.l0, if_neg (by omega)]
  | succ m ih =>
    intro i acc hm hi ha
    have hlt : i < n := by omega
    have hl : ((List.replicate n d).set t u).length = n := by simp
    have I := ih (i + 1) _ (by omega) (by omega) rfl
    have e : acc ++ [(⟨[(i : Int)], rd ((List.replicate n d).set t u) (i : Int)⟩ : P)] = (sayL u d n t).take (i + 1) := by
      rw [ha, List.take_succ_eq_append_getElem (by rw [sayL_length]; exact hlt), sayL_get, rd_nat (by omega), set_replicate_get]
    have hal : acc.length < 4398046511104 := by rw [ha, List.length_take, sayL_length]; omega
    refine Ev.step (fun k => ?_) I
    rw [noise_Respond.l0, if_pos (by omega), if_pos (by omega), if_pos (by rw [hl]; omega), if_pos hal, e, w64 (by omega) (by omega)]
    rfl
theorem respond_ok {u d many t : Int} (h : SayOK u d many t) : Ev (fun k => noise_Respond.f k u d many t) (rest (sayL u d many.toNat t.toNat)) := by
  obtain ⟨hP, hpos⟩ := sayL_parts h
  have hMk := make_ev hP ⟨.refl _, (sayL_strict u d many.toNat t.toNat).sorted⟩
  have hR := h.right
  have h1 := h.le; have h2 := h.m1; have h3 := h.m2; have h4 := h.t1; have h5 := h.t2; have h6 := h.much
  obtain ⟨m1, m2⟩ := say_mul h
  obtain ⟨r1, r2, r3, r4, r5⟩ := hR
  have hL : lossV u d = 0 := by unfold lossV; rw [if_pos h.right, if_neg (by omega)]
  have hl0 := loss_ev u d
  rw [hL] at hl0
  obtain ⟨n, hn⟩ := Int.eq_ofNat_of_zero_le (show 0 ≤ many by omega)
  obtain ⟨s, hs⟩ := Int.eq_ofNat_of_zero_le h4
  subst hn hs
  simp only [Int.toNat_natCast] at hMk ⊢
  have G := respond_go (u := u) (d := d) (n := n) (t := s) (by omega) (by omega) _ hMk n 0 [] (by omega) (by omega) rfl
  have hrep : slices_Repeat_int_int.f [d] (n : Int) = some (List.replicate n d) := by
    unfold slices_Repeat_int_int.f
    rw [if_pos (show [d].length = 1 from rfl), if_pos (by omega), if_pos (by omega), Int.toNat_natCast]
    rfl
  have J : Ev (fun k => noise_Respond.j0 k (n : Int) (s : Int) false u d) (rest (sayL u d n s)) := by
    refine Ev.step (fun k => ?_) G
    rw [noise_Respond.j0, if_neg (by decide), w64 (x := (n : Int) - 1) (by omega) (by omega), w64 (x := ((n : Int) - 1) * d) (by omega) (by omega), w64 (x := u + ((n : Int) - 1) * d) (by omega) (by omega), if_neg (by omega), hrep, Option.bind_some, if_pos (by omega), if_pos (by simp; omega)]
    simp only [Int.toNat_natCast, List.length_replicate]
    rfl
  have B := Ev.bind hl0 (f := fun k t => if t = 0 then noise_Respond.j0 k (n : Int) (s : Int) false u d else some (([] : List P), t)) (r := rest (sayL u d n s)) (Ev.congr (f := fun k => noise_Respond.j0 k (n : Int) (s : Int) false u d) (fun _ => if_pos rfl) J)
  refine Ev.congr (fun k => ?_) B
  rw [noise_Respond.f]
  refine congrArg (Option.bind _) (funext fun t => ?_)
  rw [if_neg (show ¬ (n : Int) < 1 by omega), if_neg (show ¬ (n : Int) > 4096 by omega), if_neg (show ¬ (s : Int) < 0 by omega), decide_eq_false (show ¬ (s : Int) ≥ (n : Int) by omega)]
theorem respond_fails {u d many t : Int} (h : ¬ SayOK u d many t) : ∃ e : Int, e ≠ 0 ∧ Ev (fun k => noise_Respond.f k u d many t) ([], e) := by
  have hl0 := loss_ev u d
  by_cases hL : lossV u d = 0
  · obtain ⟨hR, hle⟩ := loss_zero hL
    rw [hL] at hl0
    have jt : Ev (fun k => noise_Respond.j0 k many t true u d) ([], 3) := by
      refine Ev.step (f := fun _ => some (([] : List P), 3)) (fun k => ?_) (Ev.now _)
      rw [noise_Respond.j0, if_pos rfl]
    by_cases c : many < 1 ∨ many > 4096 ∨ t < 0 ∨ t ≥ many
    · refine ⟨3, by decide, Ev.congr (fun k => ?_) (Ev.bind hl0 (f := fun k z => if z = 0 then noise_Respond.j0 k many t true u d else some (([] : List P), z)) (Ev.congr (fun _ => if_pos rfl) jt))⟩
      rw [noise_Respond.f]
      congr 1
      funext z
      by_cases c1 : many < 1
      · rw [if_pos c1]
      · by_cases c2 : many > 4096
        · rw [if_neg c1, if_pos c2]
        · by_cases c3 : t < 0
          · rw [if_neg c1, if_neg c2, if_pos c3]
          · rw [if_neg c1, if_neg c2, if_neg c3, decide_eq_true (by omega)]
    · have hm : ¬ u + (many - 1) * d ≤ 1073741824 := fun q => h ⟨hR, hle, by omega, by omega, by omega, by omega, q⟩
      obtain ⟨r1, r2, r3, r4, r5⟩ := hR
      have m1 : 0 ≤ (many - 1) * d := Int.mul_nonneg (by omega) (by omega)
      have m2 : (many - 1) * d ≤ 4096 * 1073741824 := Int.mul_le_mul (by omega) r4 (by omega) (by decide)
      have jf : Ev (fun k => noise_Respond.j0 k many t false u d) ([], 4) := by
        refine Ev.step (f := fun _ => some (([] : List P), 4)) (fun k => ?_) (Ev.now _)
        rw [noise_Respond.j0, if_neg (by decide), w64 (x := many - 1) (by omega) (by omega), w64 (x := (many - 1) * d) (by omega) (by omega), w64 (x := u + (many - 1) * d) (by omega) (by omega), if_pos (by omega)]
      refine ⟨4, by decide, Ev.congr (fun k => ?_) (Ev.bind hl0 (f := fun k z => if z = 0 then noise_Respond.j0 k many t false u d else some (([] : List P), z)) (Ev.congr (fun _ => if_pos rfl) jf))⟩
      rw [noise_Respond.f]
      congr 1
      funext z
      rw [if_neg (show ¬ many < 1 by omega), if_neg (show ¬ many > 4096 by omega), if_neg (show ¬ t < 0 by omega), decide_eq_false (show ¬ t ≥ many by omega)]
  · refine ⟨lossV u d, hL, Ev.congr (fun k => ?_) (Ev.bind hl0 (f := fun k z => if z = 0 then (if many < 1 then (noise_Respond.j0 k many t true u d) else (if many > 4096 then (noise_Respond.j0 k many t true u d) else (if t < 0 then (noise_Respond.j0 k many t true u d) else (noise_Respond.j0 k many t (decide (t ≥ many)) u d)))) else some (([] : List P), z)) (Ev.congr (fun _ => if_neg hL) (Ev.now _)))⟩
    rw [noise_Respond.f]
theorem alive_ev : Ev (fun k => hushlaw6_alive.f k) true := by
  have hP : PartsOK [(⟨[0], 4⟩ : P), ⟨[1], 2⟩] := by
    refine ⟨by decide, fun p hp => ?_, fun p hp => ?_, fun p hp => ?_⟩
    all_goals
      rcases List.mem_cons.1 hp with rfl | hp
      · first | decide | (refine ⟨by decide, fun n hn => ?_⟩; obtain rfl := List.mem_singleton.1 hn; decide)
      · obtain rfl := List.mem_singleton.1 hp
        first | decide | (refine ⟨by decide, fun n hn => ?_⟩; obtain rfl := List.mem_singleton.1 hn; decide)
  have hS : Strict [(⟨[0], 4⟩ : P), ⟨[1], 2⟩] := by
    refine List.pairwise_cons.2 ⟨fun q hq => ?_, by simp⟩
    obtain rfl := List.mem_singleton.1 hq
    decide
  have hr : rest [(⟨[0], 4⟩ : P), ⟨[1], 2⟩] = ([⟨[0], 2⟩, ⟨[1], 1⟩], 0) := by
    unfold rest
    rw [gath_self hS (fun p hp => by
      rcases List.mem_cons.1 hp with rfl | hp
      · decide
      · obtain rfl := List.mem_singleton.1 hp
        decide)]
    simp only [show gl 0 [(⟨[0], 4⟩ : P), ⟨[1], 2⟩] = 2 from by decide +kernel, show wsum [(⟨[0], 4⟩ : P), ⟨[1], 2⟩] = 6 from by decide +kernel]
    rw [if_neg (by simp), if_neg (by decide)]
    rfl
  have M := make_ev hP ⟨.refl _, hS.sorted⟩
  rw [hr] at M
  have w1 : wrap64 (1 - 0) = 1 := w64 (x := 1 - 0) (by decide) (by decide)
  have w2 : wrap64 (0 + 1) = 1 := w64 (x := 0 + 1) (by decide) (by decide)
  have w3 : wrap64 (1 + 1) = 2 := w64 (x := 1 + 1) (by decide) (by decide)
  have w4 : wrap64 (0 + 0) = 0 := w64 (x := 0 + 0) (by decide) (by decide)
  have L2 : Ev (fun k => noise_Hide.l0 k 0 [(⟨[0], 4⟩ : P), ⟨[1], 2⟩] [4, 2] 2 2) ([⟨[0], 2⟩, ⟨[1], 1⟩], 0) := by
    refine Ev.step (fun k => ?_) (Ev.bind M (f := fun _ t => some (t.1, t.2)) (Ev.now _))
    rw [noise_Hide.l0, if_neg (by decide)]
  have L1 : Ev (fun k => noise_Hide.l0 k 0 [(⟨[0], 4⟩ : P)] [4, 2] 2 1) ([⟨[0], 2⟩, ⟨[1], 1⟩], 0) := by
    refine Ev.step (fun k => ?_) L2
    rw [noise_Hide.l0, if_pos (by decide), if_pos (by decide), if_pos (by decide), if_pos (by decide), w2, w3]
    rfl
  have L0 : Ev (fun k => noise_Hide.l0 k 0 ([] : List P) [4, 2] 2 0) ([⟨[0], 2⟩, ⟨[1], 1⟩], 0) := by
    refine Ev.step (fun k => ?_) L1
    rw [noise_Hide.l0, if_pos (by decide), if_pos (by decide), if_pos (by decide), if_pos (by decide), w2, w4]
    rfl
  have W : Ev (fun k => noise_ways.f k 2 1 1 0) [4, 2] := Ev.of (fun k => noise_ways.mono 2 1 1 0 k) (k := 9) (by decide +kernel)
  have Pw : Ev (fun k => noise_power.f k 2 1) 2 := Ev.of (fun k => noise_power.mono 2 1 k) (k := 9) (by decide +kernel)
  have J1 : Ev (fun k => noise_Hide.j1 k 0 1 0 false 2 1) ([⟨[0], 2⟩, ⟨[1], 1⟩], 0) := by
    refine Ev.step (fun k => ?_) (Ev.bind W (f := fun k t => noise_Hide.l0 k 0 ([] : List P) t (t.length : Int) 0) L0)
    rw [noise_Hide.j1, if_neg (by decide), w1, show wrap64 (mn (mx 0 0) 1 - 0) = 0 from by decide +kernel]
  have J0 : Ev (fun k => noise_Hide.j0 k 0 1 0 false 2 1) ([⟨[0], 2⟩, ⟨[1], 1⟩], 0) := by
    refine Ev.step (fun k => ?_) (Ev.bind Pw (f := fun k t => if t > 1073741824 then noise_Hide.j1 k 0 1 0 true 2 1 else noise_Hide.j1 k 0 1 0 (decide ((wrap64 (t * (wrap64 (2 + 1)))) > 1073741824)) 2 1) (Ev.congr (fun k => ?_) J1))
    · rw [noise_Hide.j0, if_neg (by decide), if_neg (by decide), w1]
    · rw [if_neg (by decide), show decide ((wrap64 (2 * (wrap64 (2 + 1)))) > 1073741824) = false from by decide +kernel]
  have hl := loss_ev 2 1
  rw [show lossV 2 1 = 0 from by decide +kernel] at hl
  have H : Ev (fun k => noise_Hide.f k 2 1 0 1 0) ([⟨[0], 2⟩, ⟨[1], 1⟩], 0) := by
    refine Ev.congr (fun k => ?_) (Ev.bind hl (f := fun k t => if t = 0 then noise_Hide.j0 k 0 1 0 false 2 1 else some (([] : List P), t)) (Ev.congr (fun _ => if_pos rfl) J0))
    rw [noise_Hide.f]
    refine congrArg (Option.bind _) (funext fun t => ?_)
    rw [if_neg (show ¬ (0 : Int) < -1073741824 by decide), if_neg (show ¬ (1 : Int) > 1073741824 by decide), if_neg (show ¬ (0 : Int) > 1 by decide), w1, decide_eq_false (show ¬ (1 : Int) > 64 by decide)]
  refine Ev.congr (fun k => ?_) (Ev.bind H (f := fun _ t => if t.2 = 0 then some ((t.1.length : Int) == 2) else some false) (Ev.congr (f := fun _ => some true) (fun _ => rfl) (Ev.now _)))
  rw [hushlaw6_alive.f]
theorem over_f0 (g : Int) (l : List P) : (over g l).map (·.f0) = l.map (·.f0) := by simp [over]
theorem over_f1 (g : Int) (l : List P) : (over g l).map (·.f1) = l.map (fun p => p.f1 / g) := by simp [over]
theorem over_wsum {g : Int} {l : List P} (h : ∀ p ∈ l, g ∣ p.f1) : wsum l = g * wsum (over g l) := by
  have := over_lin (fun _ => 1) h
  rwa [lin_one, lin_one] at this
theorem sayL_outs (u d : Int) (n s t : Nat) : (sayL u d n s).map (·.f0) = (sayL u d n t).map (·.f0) := by simp [sayL]
theorem zip_say {u d : Int} {n s t : Nat} {g g' : Int} {p : Int × Int} (h : p ∈ List.zip ((over g (sayL u d n s)).map (·.f1)) ((over g' (sayL u d n t)).map (·.f1))) : ∃ i : Nat, i < n ∧ p = ((if i = s then u else d) / g, (if i = t then u else d) / g') := by
  obtain ⟨i, hi, e⟩ := List.mem_iff_getElem.1 h
  rw [List.getElem_zip] at e
  simp only [List.length_zip, List.length_map, over, sayL_length, Nat.min_self] at hi
  refine ⟨i, hi, ?_⟩
  rw [← e]
  simp [over, sayL]
theorem say_zip {u d : Int} {n s t : Nat} {g g' : Int} (i : Nat) (hi : i < n) : ((if i = s then u else d) / g, (if i = t then u else d) / g') ∈ List.zip ((over g (sayL u d n s)).map (·.f1)) ((over g' (sayL u d n t)).map (·.f1)) := by
  refine List.mem_iff_getElem.2 ⟨i, by simp [over, sayL]; exact hi, ?_⟩
  rw [List.getElem_zip]
  simp [over, sayL]
theorem says_far {u d many s t : Int} (hs : SayOK u d many s) (ht : SayOK u d many t) (g g' : Int) (hg : 0 < g) (hg' : 0 < g') (dv : ∀ p ∈ sayL u d many.toNat s.toNat, g ∣ p.f1) (dv' : ∀ p ∈ sayL u d many.toNat t.toNat, g' ∣ p.f1)
    (D : DistOK (over g (sayL u d many.toNat s.toNat))) (D' : DistOK (over g' (sayL u d many.toNat t.toNat))) :
    Ev (fun k => dist_Far.f k (over g (sayL u d many.toNat s.toNat)) (over g' (sayL u d many.toNat t.toNat))) (if s = t then (1, 1, 0) else (u, d, 0)) := by
  obtain ⟨f, R, E⟩ := far_same D D' (by rw [over_f0, over_f0, sayL_outs])
  obtain ⟨r1, r2, r3, r4, r5⟩ := hs.right
  have h1 := hs.le; have h2 := hs.m1; have h3 := hs.m2; have h4 := hs.t1; have h5 := hs.t2; have h6 := ht.t1; have h7 := ht.t2
  have e1 := over_wsum dv
  have e2 := over_wsum dv'
  rw [sayL_wsum _ _ _ _ (by omega)] at e1 e2
  have hA := D.sum_pos
  have hB := D'.sum_pos
  have hTpos : 0 < u + ((many.toNat : Int) - 1) * d := by rw [e1]; exact Int.mul_pos hg hA
  generalize hT : u + ((many.toNat : Int) - 1) * d = T at e1 e2 hTpos
  generalize wsum (over g (sayL u d many.toNat s.toNat)) = A at *
  generalize wsum (over g' (sayL u d many.toNat t.toNat)) = B at *
  have dvd1 : ∀ i : Nat, i < many.toNat → g * ((if i = s.toNat then u else d) / g) = (if i = s.toNat then u else d) := fun i hi => Int.mul_ediv_cancel' (dv ⟨[(i : Int)], _⟩ (List.mem_map.2 ⟨i, List.mem_range.2 hi, rfl⟩))
  have dvd2 : ∀ i : Nat, i < many.toNat → g' * ((if i = t.toNat then u else d) / g') = (if i = t.toNat then u else d) := fun i hi => Int.mul_ediv_cancel' (dv' ⟨[(i : Int)], _⟩ (List.mem_map.2 ⟨i, List.mem_range.2 hi, rfl⟩))
  have hgg : 0 < g * g' := Int.mul_pos hg hg'
  -- a place's two sides, times g g'
  have side : ∀ i : Nat, i < many.toNat → ∀ Q : Int, g * g' * ((if i = s.toNat then u else d) / g * B * Q) = (if i = s.toNat then u else d) * T * Q := by
    intro i hi Q
    have := dvd1 i hi
    calc g * g' * ((if i = s.toNat then u else d) / g * B * Q) = (g * ((if i = s.toNat then u else d) / g)) * (g' * B) * Q := by
          simp only [Int.mul_assoc, Int.mul_left_comm g']
      _ = (if i = s.toNat then u else d) * T * Q := by rw [this, ← e2]
  have side' : ∀ i : Nat, i < many.toNat → ∀ Q : Int, g * g' * ((if i = t.toNat then u else d) / g' * A * Q) = (if i = t.toNat then u else d) * T * Q := by
    intro i hi Q
    have := dvd2 i hi
    calc g * g' * ((if i = t.toNat then u else d) / g' * A * Q) = (g' * ((if i = t.toNat then u else d) / g')) * (g * A) * Q := by
          simp only [Int.mul_assoc, Int.mul_left_comm g]
      _ = (if i = t.toNat then u else d) * T * Q := by rw [this, ← e1]
  obtain ⟨p1, p2, p3, p4⟩ := R.pos
  have fin : ∀ P Q : Int, 0 < P → 0 < Q → P ≤ 1073741824 → Q ≤ 1073741824 → Int.gcd P Q = 1 → Q ≤ P →
      (∀ i : Nat, i < many.toNat → (if i = s.toNat then u else d) * Q ≤ P * (if i = t.toNat then u else d) ∧ (if i = t.toNat then u else d) * Q ≤ P * (if i = s.toNat then u else d)) →
      (∃ i : Nat, i < many.toNat ∧ P * (if i = t.toNat then u else d) ≤ (if i = s.toNat then u else d) * Q) → farEnd (some f) = (P, Q, 0) := by
    intro P Q hP hQ hP2 hQ2 hc hle hall hex
    have up : f.1 * Q ≤ P * f.2 := by
      refine R.least P Q (by simp only; omega) (fun p hp => ?_)
      obtain ⟨i, hi, rfl⟩ := zip_say hp
      obtain ⟨k1, k2⟩ := hall i hi
      refine ⟨Int.le_of_mul_le_mul_left (a := g * g') ?_ hgg, Int.le_of_mul_le_mul_left (a := g * g') ?_ hgg⟩
      · rw [side i hi Q, Int.mul_comm P, side' i hi P, Int.mul_right_comm, Int.mul_right_comm _ T P, Int.mul_comm _ P]
        exact Int.mul_le_mul_of_nonneg_right k1 (by omega)
      · rw [side' i hi Q, Int.mul_comm P, side i hi P, Int.mul_right_comm, Int.mul_right_comm _ T P, Int.mul_comm _ P]
        exact Int.mul_le_mul_of_nonneg_right k2 (by omega)
    have down : P * f.2 ≤ f.1 * Q := by
      obtain ⟨i, hi, k⟩ := hex
      have a1 := R.at1 _ (say_zip (u := u) (d := d) (s := s.toNat) (t := t.toNat) (g := g) (g' := g') i hi)
      have a2 : g * g' * ((if i = s.toNat then u else d) / g * B * f.2) ≤ g * g' * (f.1 * ((if i = t.toNat then u else d) / g' * A)) := Int.mul_le_mul_of_nonneg_left a1 (by omega)
      rw [side i hi, Int.mul_comm f.1, side' i hi, Int.mul_right_comm, Int.mul_right_comm _ T f.1] at a2
      have a3 := Int.le_of_mul_le_mul_right a2 hTpos
      have ht0 : 0 < (if i = t.toNat then u else d) := by split <;> omega
      have hs0 : 0 < (if i = s.toNat then u else d) := by split <;> omega
      have b1 : P * (if i = t.toNat then u else d) * f.2 ≤ (if i = s.toNat then u else d) * Q * f.2 := Int.mul_le_mul_of_nonneg_right k (by omega)
      have b2 : (if i = s.toNat then u else d) * f.2 * Q ≤ (if i = t.toNat then u else d) * f.1 * Q := Int.mul_le_mul_of_nonneg_right a3 (by omega)
      refine Int.le_of_mul_le_mul_left (a := (if i = t.toNat then u else d)) ?_ ht0
      have c1 : (if i = t.toNat then u else d) * (P * f.2) = P * (if i = t.toNat then u else d) * f.2 := by rw [← Int.mul_assoc, Int.mul_comm _ P]
      have c2 : (if i = s.toNat then u else d) * Q * f.2 = (if i = s.toNat then u else d) * f.2 * Q := Int.mul_right_comm _ _ _
      have c3 : (if i = t.toNat then u else d) * (f.1 * Q) = (if i = t.toNat then u else d) * f.1 * Q := (Int.mul_assoc _ _ _).symm
      rw [c1, c3]
      exact Int.le_trans b1 (by rw [c2]; exact b2)
    obtain ⟨q1, q2⟩ := coprime_eq p3 hQ p1 hP R.cop hc (Int.le_antisymm up down)
    unfold farEnd
    simp only [q1, q2]
    rw [if_neg (by omega)]
  by_cases hst : s = t
  · rw [if_pos hst]
    subst hst
    rw [← fin 1 1 (by decide) (by decide) (by decide) (by decide) (by decide) (by decide) (fun i hi => by simp) ⟨0, by omega, by simp⟩]
    exact E
  · rw [if_neg hst]
    have hall : ∀ i : Nat, i < many.toNat → (if i = s.toNat then u else d) * d ≤ u * (if i = t.toNat then u else d) ∧ (if i = t.toNat then u else d) * d ≤ u * (if i = s.toNat then u else d) := by
      intro i hi
      have hdu : d * d ≤ u * u := Int.mul_le_mul h1 h1 (by omega) (by omega)
      have hdu2 : d * d ≤ u * d := Int.mul_le_mul_of_nonneg_right h1 (by omega)
      have hdu3 : u * d ≤ u * u := Int.mul_le_mul_of_nonneg_left h1 (by omega)
      have hc : d * u = u * d := Int.mul_comm _ _
      by_cases c1 : i = s.toNat
      · have c2 : ¬ i = t.toNat := by omega
        rw [if_pos c1, if_neg c2]; omega
      · rw [if_neg c1]
        by_cases c2 : i = t.toNat
        · rw [if_pos c2]; omega
        · rw [if_neg c2]; omega
    have hex : ∃ i : Nat, i < many.toNat ∧ u * (if i = t.toNat then u else d) ≤ (if i = s.toNat then u else d) * d :=
      ⟨s.toNat, by omega, by rw [if_pos rfl, if_neg (by omega)]; exact Int.le_refl _⟩
    rw [← fin u d (by omega) (by omega) r3 r4 r5 h1 hall hex]
    exact E
theorem noiseSays (u d many s t : Int) : ∃ k, hushlaw6_NoiseSays.f k u d many s t = some true := by
  refine Ev.rounds (g := fun k => hushlaw6_NoiseSays.f k u d many s t) ?_
  have key : Ev (fun k => ((noise_Respond.f k u d many s).bind fun bt240 => (if bt240.2 = 0 then ((noise_Respond.f k u d many t).bind fun bt244 => (if bt244.2 = 0 then ((dist_Far.f k bt240.1 bt244.1).bind fun bt248 => (if s = t then (if bt248.2.2 = 0 then (some (bt248.1 == 1 && (bt248.2.1 == 1))) else (some false)) else (if bt248.2.2 = 0 then (some (bt248.1 == u && (bt248.2.1 == d))) else (some false)))) else (if t < 0 then (some true) else (some (decide (t ≥ many)))))) else (some true)))) true := by
    by_cases hs : SayOK u d many s
    · obtain ⟨g, hg, dv, hr, D⟩ := sayL_rest hs
      have E1 := respond_ok hs
      rw [hr] at E1
      refine Ev.bind E1 (f := fun k bt240 => (if bt240.2 = 0 then ((noise_Respond.f k u d many t).bind fun bt244 => (if bt244.2 = 0 then ((dist_Far.f k bt240.1 bt244.1).bind fun bt248 => (if s = t then (if bt248.2.2 = 0 then (some (bt248.1 == 1 && (bt248.2.1 == 1))) else (some false)) else (if bt248.2.2 = 0 then (some (bt248.1 == u && (bt248.2.1 == d))) else (some false)))) else (if t < 0 then (some true) else (some (decide (t ≥ many)))))) else (some true))) ?_
      refine Ev.congr (fun k => if_pos rfl) ?_
      by_cases ht : SayOK u d many t
      · obtain ⟨g', hg', dv', hr', D'⟩ := sayL_rest ht
        have E2 := respond_ok ht
        rw [hr'] at E2
        refine Ev.bind E2 (f := fun k bt244 => (if bt244.2 = 0 then ((dist_Far.f k (over g (sayL u d many.toNat s.toNat)) bt244.1).bind fun bt248 => (if s = t then (if bt248.2.2 = 0 then (some (bt248.1 == 1 && (bt248.2.1 == 1))) else (some false)) else (if bt248.2.2 = 0 then (some (bt248.1 == u && (bt248.2.1 == d))) else (some false)))) else (if t < 0 then (some true) else (some (decide (t ≥ many)))))) ?_
        refine Ev.congr (fun k => if_pos rfl) ?_
        refine Ev.bind (says_far hs ht g g' hg hg' dv dv' D D') (f := fun _ bt248 => (if s = t then (if bt248.2.2 = 0 then (some (bt248.1 == 1 && (bt248.2.1 == 1))) else (some false)) else (if bt248.2.2 = 0 then (some (bt248.1 == u && (bt248.2.1 == d))) else (some false)))) ?_
        refine Ev.congr (f := fun _ => some true) (fun k => ?_) (Ev.now _)
        by_cases hst : s = t
        · rw [if_pos hst, if_pos hst]; rfl
        · rw [if_neg hst, if_neg hst]; simp
      · obtain ⟨e, he, E2⟩ := respond_fails ht
        refine Ev.bind E2 (f := fun k bt244 => (if bt244.2 = 0 then ((dist_Far.f k (over g (sayL u d many.toNat s.toNat)) bt244.1).bind fun bt248 => (if s = t then (if bt248.2.2 = 0 then (some (bt248.1 == 1 && (bt248.2.1 == 1))) else (some false)) else (if bt248.2.2 = 0 then (some (bt248.1 == u && (bt248.2.1 == d))) else (some false)))) else (if t < 0 then (some true) else (some (decide (t ≥ many)))))) ?_
        refine Ev.congr (f := fun _ => some true) (fun k => ?_) (Ev.now _)
        rw [if_neg he]
        by_cases c : t < 0
        · rw [if_pos c]
        · rw [if_neg c]
          congr 1
          refine decide_eq_true ?_
          rcases Classical.em (t ≥ many) with q | q
          · exact q
          · exact absurd ⟨hs.right, hs.le, hs.m1, hs.m2, by omega, by omega, hs.much⟩ ht
    · obtain ⟨e, he, E1⟩ := respond_fails hs
      refine Ev.bind E1 (f := fun k bt240 => (if bt240.2 = 0 then ((noise_Respond.f k u d many t).bind fun bt244 => (if bt244.2 = 0 then ((dist_Far.f k bt240.1 bt244.1).bind fun bt248 => (if s = t then (if bt248.2.2 = 0 then (some (bt248.1 == 1 && (bt248.2.1 == 1))) else (some false)) else (if bt248.2.2 = 0 then (some (bt248.1 == u && (bt248.2.1 == d))) else (some false)))) else (if t < 0 then (some true) else (some (decide (t ≥ many)))))) else (some true))) ?_
      exact Ev.congr (fun k => if_neg he) (Ev.now _)
  refine Ev.congr (fun k => ?_) (Ev.bind alive_ev (f := fun k t239 => if t239 = true then ((noise_Respond.f k u d many s).bind fun bt240 => (if bt240.2 = 0 then ((noise_Respond.f k u d many t).bind fun bt244 => (if bt244.2 = 0 then ((dist_Far.f k bt240.1 bt244.1).bind fun bt248 => (if s = t then (if bt248.2.2 = 0 then (some (bt248.1 == 1 && (bt248.2.1 == 1))) else (some false)) else (if bt248.2.2 = 0 then (some (bt248.1 == u && (bt248.2.1 == d))) else (some false)))) else (if t < 0 then (some true) else (some (decide (t ≥ many)))))) else (some true))) else some false) (Ev.congr (fun _ => if_pos rfl) key))
  rw [hushlaw6_NoiseSays.f]
end
end Go.Proofs.Ytnlpdjklbjclpaa.PNoiseSays
