/- slices.symMergeCmpFunc: one element ahead, or one behind. -/
import Derived.Test.YtnlpdjklbjclpaaSortA
namespace Go.Proofs.Ytnlpdjklbjclpaa
open Go.Shelf Go.RowKit Go.Lib Go.Sort
set_option linter.unusedVariables false
variable {P : Program} {α : Type} [Inhabited α]

set_option maxHeartbeats 8000000 in
set_option maxRecDepth 1000000 in
theorem symOne_calls (L : SortL P) (k : Nat) (aE : ∀ w, (isAgg 96).run P w = .ok true w) (zE : ∀ w, (Go.sizeOf 96).run P w = .ok k w) (enc : α → List Value) (cf : α → α → Int) (g : Nat) (cb : Array Value) (blk off cap a m b f : Nat) (d0 d : Array α) (w0 w : World)
    (eg : ∀ args w, (callFunc g args).run P w = .ok (.enter g args) w) (hcmp : CmpLays P g cb enc k cf blk off d0.size w0)
    (R : RowK enc k w0 blk off d0) (hs : d0.size = d.size) (S : SWK enc k w0 blk off d w) (hm1 : a < m) (hm2 : m ≤ a + 1) (hm : m < b) (hb : b ≤ d.size) (hsz : d.size < 4611686018427387904) :
    Calls P 191 #[.slice (some ⟨blk, off, none⟩) d.size cap, .int .i64 a, .int .i64 m, .int .i64 b, .func (.func g) #[] cb] w fun e w' => e = .returned (.tuple #[]) ∧ SWK enc k w0 blk off (St.symMerge (ltOf cf) (f + 1) a m b d) w' := by
  have mixed := L.mixed; have t0 := L.t0; have a0 := L.a0; have z0 := L.z0; have v0 := L.v0; have t3 := L.t3; have a3 := L.a3; have z3 := L.z3; have v3 := L.v3; have t4 := L.t4; have a4 := L.a4; have z4 := L.z4; have v4 := L.v4; have tS := L.tS; have aS := L.aS; have zS := L.zS; have vS := L.vS; have tF := L.tF; have aF := L.aF; have zF := L.zF; have vF := L.vF; have tU := L.tU; have aU := L.aU; have zU := L.zU; have vU := L.vU; have eSwap := L.eSwap; have eRot := L.eRot; have eIns := L.eIns; have eSym := L.eSym; have eSta := L.eSta
  have S0 : Aside (SWK enc k w0 blk off d w) := S
  have HC : Aside _ := hcmp
  have ho : ((m : Int) - (a : Int) == 1) = true := by simp; omega
  have hg : Hid (St.symMerge (ltOf cf) (f + 1) a m b d = St.bubbleUp a (St.bs (fun h => ltOf cf d[h]! d[a]!) (b - m) m b - 1 - a) d) := by
    show _ = _
    unfold St.symMerge
    rw [if_pos (by omega)]
  clear S hcmp
  go_enter L.fSym, Try.ntmps191
  go_wp2
  go_loopg [10, 11, 12] (b - m) (fun kx s10 s11 s12 wr => ∃ (i j : Nat), s10 = .int .i64 i ∧ s11 = .int .i64 j ∧ m ≤ i ∧ i ≤ j ∧ j ≤ b ∧ j - i ≤ kx ∧ Aside (SWK enc k w0 blk off d wr) ∧ Hid (St.bs (fun h => ltOf cf d[h]! d[a]!) kx i j = St.bs (fun h => ltOf cf d[h]! d[a]!) (b - m) m b))
  case atStart => exact ⟨m, b, rfl, rfl, by omega, by omega, by omega, by omega, S0, rfl⟩
  case round =>
    clear S0
    obtain ⟨i, j, rfl, rfl, h1, h2, h3, h4, S1, HB⟩ := hrel
    by_cases hlt : i < j
    · have hltz : (i : Int) < (j : Int) := by omega
      obtain ⟨f', rfl⟩ : ∃ f, gk = f + 1 := ⟨gk - 1, by omega⟩
      cases hlv : ltOf cf d[(i + j) / 2]! d[a]! with
      | true =>
        have ea : (((i : Int) + (j : Int)) / 2).toNat = (i + j) / 2 := by omega
        have pa : (0 : Int) ≤ ((i : Int) + (j : Int)) / 2 := by omega
        have ba : ((i : Int) + (j : Int)) / 2 < (d.size : Int) := by omega
        have ra : IntKind.i64.wrap (((i : Int) + (j : Int)) / 2) = ((i : Int) + (j : Int)) / 2 := by rw [IntKind.wrap_i64]; omega
        have ec : ((a : Int)).toNat = a := by omega
        have pc : (0 : Int) ≤ (a : Int) := by omega
        have bc : (a : Int) < (d.size : Int) := by omega
        have rc : IntKind.i64.wrap ((a : Int)) = (a : Int) := by rw [IntKind.wrap_i64]; omega
        obtain ⟨xx, hxx⟩ : ∃ x, x = d[(i + j) / 2]! := ⟨_, rfl⟩
        obtain ⟨yy, hyy⟩ : ∃ x, x = d[a]! := ⟨_, rfl⟩
        have lda := S1.out.ld R (by omega) P ((i + j) / 2) (by omega)
        have ldb := S1.out.ld R (by omega) P (a) (by omega)
        rw [← hxx] at lda
        rw [← hyy] at ldb
        have hcc := S1.out.cmp HC.out (by omega) xx yy
        have hvv : cf xx yy < 0 := by rw [hxx, hyy]; exact of_decide_eq_true hlv
        have hdd : decide (cf xx yy < 0) = true := decide_eq_true hvv
        clear hxx hyy
        go_wp2_with fail
        go_quiet_grown (first | (go_at_fn g; refine Calls.grown_of (hcc _ _)))
        have S2 : Aside (SWK enc k w0 blk off d (grow (wr.drewN nq) osq)) := S1.out.grown nq osq
        clear lda ldb hcc S1 ea pa ba ra ec pc bc rc
        generalize grow (wr.drewN nq) osq = w2 at S2 ⊢
        clear nq osq
        go_wp2
        go_roundg f'
        case measure => omega
        case rel =>
          have hb2 := (St.bs_yes (fun h => ltOf cf d[h]! d[a]!) f' i j hlt hlv).symm.trans HB.out
          exact ⟨(i + j) / 2 + 1, j, by first | go_num | (congr 1; omega), rfl, by omega, by omega, by omega, by omega, S2, hb2⟩
      | false =>
        have ea : (((i : Int) + (j : Int)) / 2).toNat = (i + j) / 2 := by omega
        have pa : (0 : Int) ≤ ((i : Int) + (j : Int)) / 2 := by omega
        have ba : ((i : Int) + (j : Int)) / 2 < (d.size : Int) := by omega
        have ra : IntKind.i64.wrap (((i : Int) + (j : Int)) / 2) = ((i : Int) + (j : Int)) / 2 := by rw [IntKind.wrap_i64]; omega
        have ec : ((a : Int)).toNat = a := by omega
        have pc : (0 : Int) ≤ (a : Int) := by omega
        have bc : (a : Int) < (d.size : Int) := by omega
        have rc : IntKind.i64.wrap ((a : Int)) = (a : Int) := by rw [IntKind.wrap_i64]; omega
        obtain ⟨xx, hxx⟩ : ∃ x, x = d[(i + j) / 2]! := ⟨_, rfl⟩
        obtain ⟨yy, hyy⟩ : ∃ x, x = d[a]! := ⟨_, rfl⟩
        have lda := S1.out.ld R (by omega) P ((i + j) / 2) (by omega)
        have ldb := S1.out.ld R (by omega) P (a) (by omega)
        rw [← hxx] at lda
        rw [← hyy] at ldb
        have hcc := S1.out.cmp HC.out (by omega) xx yy
        have hvv : ¬ cf xx yy < 0 := by rw [hxx, hyy]; exact of_decide_eq_false hlv
        have hdd : decide (cf xx yy < 0) = false := decide_eq_false hvv
        clear hxx hyy
        go_wp2_with fail
        go_quiet_grown (first | (go_at_fn g; refine Calls.grown_of (hcc _ _)))
        have S2 : Aside (SWK enc k w0 blk off d (grow (wr.drewN nq) osq)) := S1.out.grown nq osq
        clear lda ldb hcc S1 ea pa ba ra ec pc bc rc
        generalize grow (wr.drewN nq) osq = w2 at S2 ⊢
        clear nq osq
        go_wp2
        go_roundg f'
        case measure => omega
        case rel =>
          have hb2 := (St.bs_no (fun h => ltOf cf d[h]! d[a]!) f' i j hlt hlv).symm.trans HB.out
          exact ⟨i, (i + j) / 2, rfl, by first | go_num | (congr 1; omega), by omega, by omega, by omega, by omega, S2, hb2⟩
    · have hltz : ¬ (i : Int) < (j : Int) := by omega
      have hi : St.bs (fun h => ltOf cf d[h]! d[a]!) gk i j = i := St.bs_stop _ _ _ _ hlt
      have HG : Hid (St.symMerge (ltOf cf) (f + 1) a m b d = St.bubbleUp a (i - 1 - a) d) := by show _ = _; rw [hg.out, ← HB.out, hi]
      clear HB hi hg
      go_wp2
      go_loopg [13] (i - 1 - a) (fun kx s13 wr => ∃ (q : Nat) (dk : Array α), s13 = .int .i64 q ∧ a ≤ q ∧ q + kx + 1 = i ∧ dk.size = d.size ∧ Aside (SWK enc k w0 blk off dk wr) ∧ Hid (St.bubbleUp q kx dk = St.bubbleUp a (i - 1 - a) d))
      case atStart => exact ⟨a, d, rfl, by omega, by omega, rfl, S1, rfl⟩
      case round =>
        clear S1
        obtain ⟨q, dk, rfl, h5, h6, hds, S1, HU⟩ := hrel
        cases gk with
        | zero =>
          have hqz : ¬ (q : Int) < (i : Int) - 1 := by omega
          go_wp2
          refine bodyPost_ret (results_none rfl _ _ _) rfl ⟨rfl, ?_⟩
          rw [HG.out, ← HU.out]
          exact S1
        | succ f2 =>
          have hqz : (q : Int) < (i : Int) - 1 := by omega
          go_wp2_with fail
          have ea : ((q : Int)).toNat = q := by omega
          have pa : (0 : Int) ≤ (q : Int) := by omega
          have ba : (q : Int) < (d.size : Int) := by omega
          have ra : IntKind.i64.wrap ((q : Int)) = (q : Int) := by rw [IntKind.wrap_i64]; omega
          have ec : ((q : Int) + 1).toNat = q + 1 := by omega
          have pc : (0 : Int) ≤ (q : Int) + 1 := by omega
          have bc : (q : Int) + 1 < (d.size : Int) := by omega
          have rc : IntKind.i64.wrap ((q : Int) + 1) = (q : Int) + 1 := by rw [IntKind.wrap_i64]; omega
          have S2 : Aside (SWK enc k w0 blk off (swp dk (q) (q + 1)) ((wr.drew.setCells blk (off + (q) * k) (enc dk[q + 1]!)).setCells blk (off + (q + 1) * k) (enc dk[q]!))) := S1.out.swapped R (q) (q + 1) (by omega) (by omega)
          have l44a := S1.out.ld1 R (by omega) P (q) (by omega)
          have l44b := S1.out.ld1 R (by omega) P (q + 1) (by omega)
          have s44a := S1.out.st1 R (by omega) P (q) (by omega) dk[q + 1]!
          have s44b := S1.out.st2 R (by omega) P (q) (q + 1) (by omega) (by omega) dk[q + 1]! dk[q]!
          have n44a : (enc dk[q]!).length = k := R.hk _
          have n44b : (enc dk[q + 1]!).length = k := R.hk _
          generalize enc dk[q]! = cI44 at S2 l44a s44b n44a
          generalize enc dk[q + 1]! = cJ44 at S2 l44b s44a s44b n44b
          clear S1
          go_wp2_with fail
          go_big_region_o
          clear l44a l44b s44a s44b
          generalize (wr.drew.setCells blk (off + (q) * k) cJ44).setCells blk (off + (q + 1) * k) cI44 = w2 at S2 ⊢
          go_wp2
          go_roundg f2
          case measure => omega
          case rel => exact ⟨q + 1, swp dk q (q + 1), by first | go_num | (congr 1; omega), by omega, by omega, by rw [size_swp]; exact hds, S2, HU.out⟩

set_option maxHeartbeats 8000000 in
set_option maxRecDepth 1000000 in
theorem symLast_calls (L : SortL P) (k : Nat) (aE : ∀ w, (isAgg 96).run P w = .ok true w) (zE : ∀ w, (Go.sizeOf 96).run P w = .ok k w) (enc : α → List Value) (cf : α → α → Int) (g : Nat) (cb : Array Value) (blk off cap a m b f : Nat) (d0 d : Array α) (w0 w : World)
    (eg : ∀ args w, (callFunc g args).run P w = .ok (.enter g args) w) (hcmp : CmpLays P g cb enc k cf blk off d0.size w0)
    (R : RowK enc k w0 blk off d0) (hs : d0.size = d.size) (S : SWK enc k w0 blk off d w) (hm : a + 1 < m) (hm1 : m < b) (hm2 : b ≤ m + 1) (hb : b ≤ d.size) (hsz : d.size < 4611686018427387904) :
    Calls P 191 #[.slice (some ⟨blk, off, none⟩) d.size cap, .int .i64 a, .int .i64 m, .int .i64 b, .func (.func g) #[] cb] w fun e w' => e = .returned (.tuple #[]) ∧ SWK enc k w0 blk off (St.symMerge (ltOf cf) (f + 1) a m b d) w' := by
  have mixed := L.mixed; have t0 := L.t0; have a0 := L.a0; have z0 := L.z0; have v0 := L.v0; have t3 := L.t3; have a3 := L.a3; have z3 := L.z3; have v3 := L.v3; have t4 := L.t4; have a4 := L.a4; have z4 := L.z4; have v4 := L.v4; have tS := L.tS; have aS := L.aS; have zS := L.zS; have vS := L.vS; have tF := L.tF; have aF := L.aF; have zF := L.zF; have vF := L.vF; have tU := L.tU; have aU := L.aU; have zU := L.zU; have vU := L.vU; have eSwap := L.eSwap; have eRot := L.eRot; have eIns := L.eIns; have eSym := L.eSym; have eSta := L.eSta
  have S0 : Aside (SWK enc k w0 blk off d w) := S
  have HC : Aside _ := hcmp
  have ho : ((m : Int) - (a : Int) == 1) = false := by rw [beq_eq_false_iff_ne]; omega
  have ho2 : ((b : Int) - (m : Int) == 1) = true := by simp; omega
  have hg : Hid (St.symMerge (ltOf cf) (f + 1) a m b d = St.bubbleDown m (m - St.bs (fun h => !ltOf cf d[m]! d[h]!) (m - a) a m) d) := by
    show _ = _
    unfold St.symMerge
    rw [if_neg (by omega), if_pos (by omega)]
  clear S hcmp
  go_enter L.fSym, Try.ntmps191
  go_wp2
  go_loopg [14, 15, 16] (m - a) (fun kx s10 s11 s12 wr => ∃ (i j : Nat), s10 = .int .i64 i ∧ s11 = .int .i64 j ∧ a ≤ i ∧ i ≤ j ∧ j ≤ m ∧ j - i ≤ kx ∧ Aside (SWK enc k w0 blk off d wr) ∧ Hid (St.bs (fun h => !ltOf cf d[m]! d[h]!) kx i j = St.bs (fun h => !ltOf cf d[m]! d[h]!) (m - a) a m))
  case atStart => exact ⟨a, m, rfl, rfl, by omega, by omega, by omega, by omega, S0, rfl⟩
  case round =>
    clear S0
    obtain ⟨i, j, rfl, rfl, h1, h2, h3, h4, S1, HB⟩ := hrel
    by_cases hlt : i < j
    · have hltz : (i : Int) < (j : Int) := by omega
      obtain ⟨f', rfl⟩ : ∃ f, gk = f + 1 := ⟨gk - 1, by omega⟩
      cases hlv : ltOf cf d[m]! d[(i + j) / 2]! with
      | true =>
        have ea : ((m : Int)).toNat = m := by omega
        have pa : (0 : Int) ≤ (m : Int) := by omega
        have ba : (m : Int) < (d.size : Int) := by omega
        have ra : IntKind.i64.wrap ((m : Int)) = (m : Int) := by rw [IntKind.wrap_i64]; omega
        have ec : (((i : Int) + (j : Int)) / 2).toNat = (i + j) / 2 := by omega
        have pc : (0 : Int) ≤ ((i : Int) + (j : Int)) / 2 := by omega
        have bc : ((i : Int) + (j : Int)) / 2 < (d.size : Int) := by omega
        have rc : IntKind.i64.wrap (((i : Int) + (j : Int)) / 2) = ((i : Int) + (j : Int)) / 2 := by rw [IntKind.wrap_i64]; omega
        obtain ⟨xx, hxx⟩ : ∃ x, x = d[m]! := ⟨_, rfl⟩
        obtain ⟨yy, hyy⟩ : ∃ x, x = d[(i + j) / 2]! := ⟨_, rfl⟩
        have lda := S1.out.ld R (by omega) P (m) (by omega)
        have ldb := S1.out.ld R (by omega) P ((i + j) / 2) (by omega)
        rw [← hxx] at lda
        rw [← hyy] at ldb
        have hcc := S1.out.cmp HC.out (by omega) xx yy
        have hvv : cf xx yy < 0 := by rw [hxx, hyy]; exact of_decide_eq_true hlv
        have hdd : decide (cf xx yy < 0) = true := decide_eq_true hvv
        clear hxx hyy
        go_wp2_with fail
        go_quiet_grown (first | (go_at_fn g; refine Calls.grown_of (hcc _ _)))
        have S2 : Aside (SWK enc k w0 blk off d (grow (wr.drewN nq) osq)) := S1.out.grown nq osq
        clear lda ldb hcc S1 ea pa ba ra ec pc bc rc
        generalize grow (wr.drewN nq) osq = w2 at S2 ⊢
        clear nq osq
        go_wp2
        go_roundg f'
        case measure => omega
        case rel =>
          have hb2 := (St.bs_no (fun h => !ltOf cf d[m]! d[h]!) f' i j hlt (by simp only [hlv]; rfl)).symm.trans HB.out
          exact ⟨i, (i + j) / 2, rfl, by first | go_num | (congr 1; omega), by omega, by omega, by omega, by omega, S2, hb2⟩
      | false =>
        have ea : ((m : Int)).toNat = m := by omega
        have pa : (0 : Int) ≤ (m : Int) := by omega
        have ba : (m : Int) < (d.size : Int) := by omega
        have ra : IntKind.i64.wrap ((m : Int)) = (m : Int) := by rw [IntKind.wrap_i64]; omega
        have ec : (((i : Int) + (j : Int)) / 2).toNat = (i + j) / 2 := by omega
        have pc : (0 : Int) ≤ ((i : Int) + (j : Int)) / 2 := by omega
        have bc : ((i : Int) + (j : Int)) / 2 < (d.size : Int) := by omega
        have rc : IntKind.i64.wrap (((i : Int) + (j : Int)) / 2) = ((i : Int) + (j : Int)) / 2 := by rw [IntKind.wrap_i64]; omega
        obtain ⟨xx, hxx⟩ : ∃ x, x = d[m]! := ⟨_, rfl⟩
        obtain ⟨yy, hyy⟩ : ∃ x, x = d[(i + j) / 2]! := ⟨_, rfl⟩
        have lda := S1.out.ld R (by omega) P (m) (by omega)
        have ldb := S1.out.ld R (by omega) P ((i + j) / 2) (by omega)
        rw [← hxx] at lda
        rw [← hyy] at ldb
        have hcc := S1.out.cmp HC.out (by omega) xx yy
        have hvv : ¬ cf xx yy < 0 := by rw [hxx, hyy]; exact of_decide_eq_false hlv
        have hdd : decide (cf xx yy < 0) = false := decide_eq_false hvv
        clear hxx hyy
        go_wp2_with fail
        go_quiet_grown (first | (go_at_fn g; refine Calls.grown_of (hcc _ _)))
        have S2 : Aside (SWK enc k w0 blk off d (grow (wr.drewN nq) osq)) := S1.out.grown nq osq
        clear lda ldb hcc S1 ea pa ba ra ec pc bc rc
        generalize grow (wr.drewN nq) osq = w2 at S2 ⊢
        clear nq osq
        go_wp2
        go_roundg f'
        case measure => omega
        case rel =>
          have hb2 := (St.bs_yes (fun h => !ltOf cf d[m]! d[h]!) f' i j hlt (by simp only [hlv]; rfl)).symm.trans HB.out
          exact ⟨(i + j) / 2 + 1, j, by first | go_num | (congr 1; omega), rfl, by omega, by omega, by omega, by omega, S2, hb2⟩
    · have hltz : ¬ (i : Int) < (j : Int) := by omega
      have hi : St.bs (fun h => !ltOf cf d[m]! d[h]!) gk i j = i := St.bs_stop _ _ _ _ hlt
      have HG : Hid (St.symMerge (ltOf cf) (f + 1) a m b d = St.bubbleDown m (m - i) d) := by show _ = _; rw [hg.out, ← HB.out, hi]
      clear HB hi hg
      go_wp2
      go_loopg [17] (m - i) (fun kx s13 wr => ∃ (q : Nat) (dk : Array α), s13 = .int .i64 q ∧ q ≤ m ∧ q = i + kx ∧ dk.size = d.size ∧ Aside (SWK enc k w0 blk off dk wr) ∧ Hid (St.bubbleDown q kx dk = St.bubbleDown m (m - i) d))
      case atStart => exact ⟨m, d, rfl, by omega, by omega, rfl, S1, rfl⟩
      case round =>
        clear S1
        obtain ⟨q, dk, rfl, h5, h6, hds, S1, HU⟩ := hrel
        have H6 : Hid (q = i + gk) := h6
        have h7 : i ≤ q := by omega
        cases gk with
        | zero =>
          have hqz : ¬ (i : Int) < (q : Int) := by omega
          clear h6
          go_wp2
          refine bodyPost_ret (results_none rfl _ _ _) rfl ⟨rfl, ?_⟩
          rw [HG.out, ← HU.out]
          exact S1
        | succ f2 =>
          have hqz : (i : Int) < (q : Int) := by omega
          have h8 : 0 < q := by omega
          have hu : Hid (St.bubbleDown (q - 1) f2 (swp dk q (q - 1)) = St.bubbleDown m (m - i) d) := HU.out
          clear h6
          go_wp2_with fail
          have ea : ((q : Int)).toNat = q := by omega
          have pa : (0 : Int) ≤ (q : Int) := by omega
          have ba : (q : Int) < (d.size : Int) := by omega
          have ra : IntKind.i64.wrap ((q : Int)) = (q : Int) := by rw [IntKind.wrap_i64]; omega
          have ec : ((q : Int) - 1).toNat = q - 1 := by omega
          have pc : (0 : Int) ≤ (q : Int) - 1 := by omega
          have bc : (q : Int) - 1 < (d.size : Int) := by omega
          have rc : IntKind.i64.wrap ((q : Int) - 1) = (q : Int) - 1 := by rw [IntKind.wrap_i64]; omega
          have S2 : Aside (SWK enc k w0 blk off (swp dk (q) (q - 1)) ((wr.drew.setCells blk (off + (q) * k) (enc dk[q - 1]!)).setCells blk (off + (q - 1) * k) (enc dk[q]!))) := S1.out.swapped R (q) (q - 1) (by omega) (by omega)
          have l44a := S1.out.ld1 R (by omega) P (q) (by omega)
          have l44b := S1.out.ld1 R (by omega) P (q - 1) (by omega)
          have s44a := S1.out.st1 R (by omega) P (q) (by omega) dk[q - 1]!
          have s44b := S1.out.st2 R (by omega) P (q) (q - 1) (by omega) (by omega) dk[q - 1]! dk[q]!
          have n44a : (enc dk[q]!).length = k := R.hk _
          have n44b : (enc dk[q - 1]!).length = k := R.hk _
          generalize enc dk[q]! = cI44 at S2 l44a s44b n44a
          generalize enc dk[q - 1]! = cJ44 at S2 l44b s44a s44b n44b
          clear S1
          go_wp2_with fail
          go_big_region_o
          clear l44a l44b s44a s44b
          generalize (wr.drew.setCells blk (off + (q) * k) cJ44).setCells blk (off + (q - 1) * k) cI44 = w2 at S2 ⊢
          go_wp2
          go_roundg f2
          case measure => omega
          case rel => exact ⟨q - 1, swp dk q (q - 1), by first | go_num | (congr 1; omega), by omega, by have := H6.out; omega, by rw [size_swp]; exact hds, S2, hu⟩

end Go.Proofs.Ytnlpdjklbjclpaa
