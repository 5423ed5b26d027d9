/- slices.insertionSortCmpFunc, stableCmpFunc, SortStableFunc. -/
import Derived.Test.YtnlpdjklbjclpaaSortC
namespace Go.Proofs.Ytnlpdjklbjclpaa
open Go.Shelf Go.RowKit Go.Lib Go.Sort
set_option linter.unusedVariables false
variable {P : Program} {α : Type} [Inhabited α]

set_option maxHeartbeats 8000000 in
set_option maxRecDepth 1000000 in
theorem insertion_calls (L : SortL P) (k : Nat) (aE : ∀ w, (isAgg 96).run P w = .ok true w) (zE : ∀ w, (Go.sizeOf 96).run P w = .ok k w) (enc : α → List Value) (cf : α → α → Int) (g : Nat) (cb : Array Value) (blk off cap a b : Nat) (d0 d : Array α) (w0 w : World)
    (eg : ∀ args w, (callFunc g args).run P w = .ok (.enter g args) w) (hcmp : CmpLays P g cb enc k cf blk off d0.size w0)
    (R : RowK enc k w0 blk off d0) (hs : d0.size = d.size) (S : SWK enc k w0 blk off d w) (hab : a ≤ b) (hb : b ≤ d.size) (hsz : d.size < 4611686018427387904) :
    Calls P 190 #[.slice (some ⟨blk, off, none⟩) d.size cap, .int .i64 a, .int .i64 b, .func (.func g) #[] cb] w fun e w' => e = .returned (.tuple #[]) ∧ SWK enc k w0 blk off (insertionSort (ltOf cf) d a b) w' := by
  have mixed := L.mixed; have t0 := L.t0; have a0 := L.a0; have z0 := L.z0; have v0 := L.v0; have t3 := L.t3; have a3 := L.a3; have z3 := L.z3; have v3 := L.v3; have t4 := L.t4; have a4 := L.a4; have z4 := L.z4; have v4 := L.v4; have tS := L.tS; have aS := L.aS; have zS := L.zS; have vS := L.vS; have tF := L.tF; have aF := L.aF; have zF := L.zF; have vF := L.vF; have tU := L.tU; have aU := L.aU; have zU := L.zU; have vU := L.vU; have eSwap := L.eSwap; have eRot := L.eRot; have eIns := L.eIns; have eSym := L.eSym; have eSta := L.eSta
  have S0 : Aside (SWK enc k w0 blk off d w) := S
  have HC : Aside _ := hcmp
  clear S hcmp
  go_enter L.fIns, Try.ntmps190
  go_wp2
  go_loopg [8] (b - a) (fun g1 vi wr => ∃ (i : Nat) (dk : Array α), vi = .int .i64 i ∧ a < i ∧ i ≤ b + 1 ∧ b + 1 - i ≤ g1 + 1 ∧ dk.size = d.size ∧ Aside (SWK enc k w0 blk off dk wr) ∧ Hid (insOuter (ltOf cf) a b i dk = insOuter (ltOf cf) a b (a + 1) d))
  case atStart => exact ⟨a + 1, d, by go_num, by omega, by omega, by omega, rfl, S0, rfl⟩
  case round =>
    clear S0
    obtain ⟨i, dk, rfl, hai, hib, hg1, hsk, S1, HO⟩ := hrel
    by_cases hlt : i < b
    · have hltz : (i : Int) < (b : Int) := by omega
      go_wp2
      go_loopg [9] i (fun g2 vj wr2 => ∃ (j : Nat) (dj : Array α), vj = .int .i64 j ∧ a ≤ j ∧ j ≤ i ∧ j ≤ g2 ∧ dj.size = d.size ∧ Aside (SWK enc k w0 blk off dj wr2) ∧ Hid (insInner (ltOf cf) a j dj = insInner (ltOf cf) a i dk))
      case atStart => exact ⟨i, dk, rfl, by omega, Nat.le_refl _, Nat.le_refl _, hsk, S1, rfl⟩
      case round =>
        clear S1
        obtain ⟨j, dj, rfl, haj, hji, hg2, hsj, S1, HI⟩ := hrel
        have out : (j ≤ a ∨ ltOf cf dj[j]! dj[j - 1]! = false) → Hid (insOuter (ltOf cf) a b (i + 1) dj = insOuter (ltOf cf) a b (a + 1) d) := fun hs => by
          show _ = _
          rw [← HO.out, insOuter_go _ _ _ _ _ hlt, ← HI.out, insInner_stop _ _ _ _ hs]
        have OUT : Aside _ := out
        clear out
        by_cases hja : a < j
        · have hjaz : (a : Int) < (j : Int) := by omega
          obtain ⟨jp, rfl⟩ : ∃ jp, j = jp + 1 := ⟨j - 1, by omega⟩
          have hjaz' : (a : Int) < (jp : Int) + 1 := by omega
          have hjd : decide ((a : Int) < (jp : Int) + 1) = true := decide_eq_true hjaz'
          cases hlv : ltOf cf dj[jp + 1]! dj[jp]! with
          | true =>
            have ea : ((jp : Int) + 1).toNat = jp + 1 := by omega
            have pa : (0 : Int) ≤ (jp : Int) + 1 := by omega
            have ba : (jp : Int) + 1 < (d.size : Int) := by omega
            have ra : IntKind.i64.wrap ((jp : Int) + 1) = (jp : Int) + 1 := by rw [IntKind.wrap_i64]; omega
            have ec : ((jp : Int)).toNat = jp := by omega
            have pc : (0 : Int) ≤ (jp : Int) := by omega
            have bc : (jp : Int) < (d.size : Int) := by omega
            have rc : IntKind.i64.wrap ((jp : Int)) = (jp : Int) := by rw [IntKind.wrap_i64]; omega
            obtain ⟨xx, hxx⟩ : ∃ x, x = dj[jp + 1]! := ⟨_, rfl⟩
            obtain ⟨yy, hyy⟩ : ∃ x, x = dj[jp]! := ⟨_, rfl⟩
            have lda := S1.out.ld R (by omega) P (jp + 1) (by omega)
            have ldb := S1.out.ld R (by omega) P (jp) (by omega)
            rw [← hxx] at lda
            rw [← hyy] at ldb
            have hcc := S1.out.cmp HC.out (by omega) xx yy
            have hvv : cf xx yy < 0 := by rw [hxx, hyy]; exact of_decide_eq_true hlv
            have hdd : decide (cf xx yy < 0) = true := decide_eq_true hvv
            clear hxx hyy
            go_wp2_with fail
            go_quiet_grown (first | (go_at_fn g; refine Calls.grown_of (hcc _ _)))
            have S2 : Aside (SWK enc k w0 blk off dj (grow (wr.drewN nq) osq)) := S1.out.grown nq osq
            clear lda ldb hcc S1 ea pa ba ra ec pc bc rc
            generalize grow (wr.drewN nq) osq = w2 at S2 ⊢
            clear nq osq
            have S1 := S2
            clear S2
            go_wp2_with fail
            have ea : ((jp : Int) + 1).toNat = jp + 1 := by omega
            have pa : (0 : Int) ≤ (jp : Int) + 1 := by omega
            have ba : (jp : Int) + 1 < (d.size : Int) := by omega
            have ra : IntKind.i64.wrap ((jp : Int) + 1) = (jp : Int) + 1 := by rw [IntKind.wrap_i64]; omega
            have ec : ((jp : Int)).toNat = jp := by omega
            have pc : (0 : Int) ≤ (jp : Int) := by omega
            have bc : (jp : Int) < (d.size : Int) := by omega
            have rc : IntKind.i64.wrap ((jp : Int)) = (jp : Int) := by rw [IntKind.wrap_i64]; omega
            have S2 : Aside (SWK enc k w0 blk off (swp dj (jp + 1) (jp)) ((w2.drew.setCells blk (off + (jp + 1) * k) (enc dj[jp]!)).setCells blk (off + (jp) * k) (enc dj[jp + 1]!))) := S1.out.swapped R (jp + 1) (jp) (by omega) (by omega)
            have l44a := S1.out.ld1 R (by omega) P (jp + 1) (by omega)
            have l44b := S1.out.ld1 R (by omega) P (jp) (by omega)
            have s44a := S1.out.st1 R (by omega) P (jp + 1) (by omega) dj[jp]!
            have s44b := S1.out.st2 R (by omega) P (jp + 1) (jp) (by omega) (by omega) dj[jp]! dj[jp + 1]!
            have n44a : (enc dj[jp + 1]!).length = k := R.hk _
            have n44b : (enc dj[jp]!).length = k := R.hk _
            generalize enc dj[jp + 1]! = cI44 at S2 l44a s44b n44a
            generalize enc dj[jp]! = cJ44 at S2 l44b s44a s44b n44b
            clear S1
            go_wp2_with fail
            go_big_region_o
            clear l44a l44b s44a s44b
            generalize (w2.drew.setCells blk (off + (jp + 1) * k) cJ44).setCells blk (off + (jp) * k) cI44 = w3 at S2 ⊢
            go_wp2
            go_roundg jp
            case measure => omega
            case rel =>
              refine ⟨jp, swp dj (jp + 1) jp, by first | rfl | go_num | (congr 1; omega), by omega, by omega, Nat.le_refl _, by rw [size_swp]; exact hsj, S2, (show Hid _ from ?_)⟩
              show _ = _
              have := insInner_go (ltOf cf) a (jp + 1) dj hja (by simp only [Nat.add_sub_cancel]; exact hlv)
              simp only [Nat.add_sub_cancel] at this
              rw [← HI.out, this]
          | false =>
            have ea : ((jp : Int) + 1).toNat = jp + 1 := by omega
            have pa : (0 : Int) ≤ (jp : Int) + 1 := by omega
            have ba : (jp : Int) + 1 < (d.size : Int) := by omega
            have ra : IntKind.i64.wrap ((jp : Int) + 1) = (jp : Int) + 1 := by rw [IntKind.wrap_i64]; omega
            have ec : ((jp : Int)).toNat = jp := by omega
            have pc : (0 : Int) ≤ (jp : Int) := by omega
            have bc : (jp : Int) < (d.size : Int) := by omega
            have rc : IntKind.i64.wrap ((jp : Int)) = (jp : Int) := by rw [IntKind.wrap_i64]; omega
            obtain ⟨xx, hxx⟩ : ∃ x, x = dj[jp + 1]! := ⟨_, rfl⟩
            obtain ⟨yy, hyy⟩ : ∃ x, x = dj[jp]! := ⟨_, rfl⟩
            have lda := S1.out.ld R (by omega) P (jp + 1) (by omega)
            have ldb := S1.out.ld R (by omega) P (jp) (by omega)
            rw [← hxx] at lda
            rw [← hyy] at ldb
            have hcc := S1.out.cmp HC.out (by omega) xx yy
            have hvv : ¬ cf xx yy < 0 := by rw [hxx, hyy]; exact of_decide_eq_false hlv
            have hdd : decide (cf xx yy < 0) = false := decide_eq_false hvv
            clear hxx hyy
            go_wp2_with fail
            go_quiet_grown (first | (go_at_fn g; refine Calls.grown_of (hcc _ _)))
            have S2 : Aside (SWK enc k w0 blk off dj (grow (wr.drewN nq) osq)) := S1.out.grown nq osq
            clear lda ldb hcc S1 ea pa ba ra ec pc bc rc
            generalize grow (wr.drewN nq) osq = w2 at S2 ⊢
            clear nq osq
            go_wp2
            go_roundg (b - (i + 1))
            case measure => omega
            case rel => exact ⟨i + 1, dj, by go_num, by omega, by omega, by omega, hsj, S2, OUT.out (Or.inr (by simp only [Nat.add_sub_cancel]; exact hlv))⟩
        · have hjaz : decide ((j : Int) > (a : Int)) = false := decide_eq_false (by omega)
          have hjaz' : ¬ (a : Int) < (j : Int) := by omega
          have S2 : Aside (SWK enc k w0 blk off dj wr.drew) := S1.out.drew
          clear S1
          go_wp2_with fail
          go_big_region_o
          all_goals go_wp2
          go_roundg (b - (i + 1))
          case measure => omega
          case rel => exact ⟨i + 1, dj, by go_num, by omega, by omega, by omega, hsj, S2, OUT.out (Or.inl (by omega))⟩
    · have hltz : ¬ (i : Int) < (b : Int) := by omega
      go_wp2
      go_end0
      exact ⟨rfl, by unfold Sort.insertionSort; rw [← HO.out, insOuter_stop _ _ _ _ _ hlt]; exact S1⟩

end Go.Proofs.Ytnlpdjklbjclpaa
