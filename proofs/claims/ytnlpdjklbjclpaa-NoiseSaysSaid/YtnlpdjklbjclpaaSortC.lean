/- slices.symMergeCmpFunc, whole. -/
import Derived.Test.YtnlpdjklbjclpaaSortB
namespace Go.Proofs.Ytnlpdjklbjclpaa
open Go.Shelf Go.RowKit Go.Lib Go.Sort
set_option linter.unusedVariables false
variable {P : Program} {α : Type} [Inhabited α]

/-- What stands behind the binary search. -/
def symTail (lt : α → α → Bool) (f a m b mid : Nat) (d : Array α) (s : Nat) : Array α :=
  let e := mid + m - s
  let d1 := if s < m ∧ m < e then St.rotate s m e d else d
  let d2 := if a < s ∧ s < mid then St.symMerge lt f a s mid d1 else d1
  if mid < e ∧ e < b then St.symMerge lt f mid e b d2 else d2

set_option maxHeartbeats 8000000 in
set_option maxRecDepth 1000000 in
theorem symMerge_step (L : SortL P) (k : Nat) (aE : ∀ w, (isAgg 96).run P w = .ok true w) (zE : ∀ w, (Go.sizeOf 96).run P w = .ok k w) (enc : α → List Value) (cf : α → α → Int) (g : Nat) (cb : Array Value) (blk off cap f a m b : Nat) (d0 d : Array α) (w0 w : World)
    (eg : ∀ args w, (callFunc g args).run P w = .ok (.enter g args) w) (hcmp : CmpLays P g cb enc k cf blk off d0.size w0)
    (R : RowK enc k w0 blk off d0) (hs : d0.size = d.size) (S : SWK enc k w0 blk off d w) (ih : ∀ (a m b : Nat) (dk : Array α) (W : World), dk.size = d.size → SWK enc k w0 blk off dk W → a < m → m < b → b ≤ d.size → b - a ≤ f → Calls P 191 #[.slice (some ⟨blk, off, none⟩) d.size cap, .int .i64 a, .int .i64 m, .int .i64 b, .func (.func g) #[] cb] W fun e w' => e = .returned (.tuple #[]) ∧ SWK enc k w0 blk off (St.symMerge (ltOf cf) f a m b dk) w')
    (hm1 : a + 1 < m) (hm2 : m + 1 < b) (hbf : b - a ≤ f + 1) (hb : b ≤ d.size) (hsz : d.size < 4611686018427387904) :
    Calls P 191 #[.slice (some ⟨blk, off, none⟩) d.size cap, .int .i64 a, .int .i64 m, .int .i64 b, .func (.func g) #[] cb] w fun e w' => e = .returned (.tuple #[]) ∧ SWK enc k w0 blk off (St.symMerge (ltOf cf) (f + 1) a m b d) w' := by
  have mixed := L.mixed; have t0 := L.t0; have a0 := L.a0; have z0 := L.z0; have v0 := L.v0; have t3 := L.t3; have a3 := L.a3; have z3 := L.z3; have v3 := L.v3; have t4 := L.t4; have a4 := L.a4; have z4 := L.z4; have v4 := L.v4; have tS := L.tS; have aS := L.aS; have zS := L.zS; have vS := L.vS; have tF := L.tF; have aF := L.aF; have zF := L.zF; have vF := L.vF; have tU := L.tU; have aU := L.aU; have zU := L.zU; have vU := L.vU; have eSwap := L.eSwap; have eRot := L.eRot; have eIns := L.eIns; have eSym := L.eSym; have eSta := L.eSta
  have S0 : Aside (SWK enc k w0 blk off d w) := S
  have HC : Aside _ := hcmp
  have IH : Aside _ := ih
  have ROT : Aside _ := fun (x y z : Nat) (dk : Array α) (W : World) (h1 : dk.size = d.size) (h2 : SWK enc k w0 blk off dk W) (h3 : x < y) (h4 : y < z) (h5 : z ≤ d.size) => h1 ▸ rotate_calls L k aE zE enc g cb blk off cap x y z d0 dk w0 W R (by omega) h2 h3 h4 (by omega) (by omega)
  have ho : ((m : Int) - (a : Int) == 1) = false := by rw [beq_eq_false_iff_ne]; omega
  have ho2 : ((b : Int) - (m : Int) == 1) = false := by rw [beq_eq_false_iff_ne]; omega
  obtain ⟨mid, hmid⟩ : ∃ mid, mid = (a + b) / 2 := ⟨_, rfl⟩
  have HM : Hid (mid = (a + b) / 2) := hmid
  have cm : ((a : Int) + (b : Int)) / 2 = (mid : Int) := by omega
  have m1 : 2 * mid ≤ a + b := by omega
  have m2 : a + b ≤ 2 * mid + 1 := by omega
  clear S hcmp ih hmid
  by_cases hmm : mid < m
  · have hmz : (mid : Int) < (m : Int) := by omega
    have hg : Hid (St.symMerge (ltOf cf) (f + 1) a m b d = symTail (ltOf cf) f a m b mid d (St.bs (fun c => !ltOf cf d[mid + m - 1 - c]! d[c]!) (mid - (mid + m - b)) (mid + m - b) mid)) := by
      show _ = _
      unfold St.symMerge symTail
      rw [if_neg (by omega), if_neg (by omega)]
      simp only [← HM.out, if_pos (show m > mid from hmm)]
    go_enter L.fSym, Try.ntmps191
    go_wp2
    go_loopg [20, 21, 23] (mid - (mid + m - b)) (fun kx s10 s11 s12 wr => ∃ (i j : Nat), s10 = .int .i64 i ∧ s11 = .int .i64 j ∧ (mid + m - b) ≤ i ∧ i ≤ j ∧ j ≤ mid ∧ j - i ≤ kx ∧ Aside (SWK enc k w0 blk off d wr) ∧ Hid (St.bs (fun c => !ltOf cf d[mid + m - 1 - c]! d[c]!) kx i j = St.bs (fun c => !ltOf cf d[mid + m - 1 - c]! d[c]!) (mid - (mid + m - b)) (mid + m - b) mid))
    case atStart => exact ⟨(mid + m - b), mid, by first | rfl | (congr 1; omega), rfl, by omega, by omega, by omega, by omega, S0, rfl⟩
    case round =>
      clear S0
      obtain ⟨i, j, rfl, rfl, h1, h2, h3, h4, S1, HB⟩ := hrel
      by_cases hlt : i < j
      · have hltz : (i : Int) < (j : Int) := by omega
        obtain ⟨f', rfl⟩ : ∃ f, gk = f + 1 := ⟨gk - 1, by omega⟩
        obtain ⟨q, hq⟩ : ∃ q, q = (i + j) / 2 := ⟨_, rfl⟩
        have cq : ((i : Int) + (j : Int)) / 2 = (q : Int) := by omega
        have q1 : i ≤ q := by omega
        have q2 : q < j := by omega
        have HQ : Hid (q = (i + j) / 2) := hq
        clear hq
        obtain ⟨t, ht⟩ : ∃ t, t = mid + m - 1 - q := ⟨_, rfl⟩
        have ct : (mid : Int) + (m : Int) - 1 - (q : Int) = (t : Int) := by omega
        have t1 : t < d.size := by omega
        have cw : IntKind.i64.wrap ((mid : Int) + (m : Int) - 1 - (q : Int)) = (t : Int) := by rw [IntKind.wrap_i64]; omega
        have HT : Hid (t = mid + m - 1 - q) := ht
        clear ht
        cases hlv : ltOf cf d[t]! d[q]! with
        | true =>
          have ea : ((t : Int)).toNat = t := by omega
          have pa : (0 : Int) ≤ (t : Int) := by omega
          have ba : (t : Int) < (d.size : Int) := by omega
          have ra : IntKind.i64.wrap ((t : Int)) = (t : Int) := by rw [IntKind.wrap_i64]; omega
          have ec : ((q : Int)).toNat = q := by omega
          have pc : (0 : Int) ≤ (q : Int) := by omega
          have bc : (q : Int) < (d.size : Int) := by omega
          have rc : IntKind.i64.wrap ((q : Int)) = (q : Int) := by rw [IntKind.wrap_i64]; omega
          obtain ⟨xx, hxx⟩ : ∃ x, x = d[t]! := ⟨_, rfl⟩
          obtain ⟨yy, hyy⟩ : ∃ x, x = d[q]! := ⟨_, rfl⟩
          have lda := S1.out.ld R (by omega) P (t) (by omega)
          have ldb := S1.out.ld R (by omega) P (q) (by omega)
          rw [← hxx] at lda
          rw [← hyy] at ldb
          have hcc := S1.out.cmp HC.out (by omega) xx yy
          have hvv : cf xx yy < 0 := by rw [hxx, hyy]; exact of_decide_eq_true hlv
          have hdd : decide (cf xx yy < 0) = true := decide_eq_true hvv
          clear hxx hyy
          go_wp2_with fail
          go_quiet_grown (first | (go_at_fn g; refine Calls.grown_of (hcc _ _)))
          have S2 : Aside (SWK enc k w0 blk off d (grow (wr.drewN nq) osq)) := S1.out.grown nq osq
          clear lda ldb hcc S1 ea pa ba ra ec pc bc rc
          generalize grow (wr.drewN nq) osq = w2 at S2 ⊢
          clear nq osq
          go_wp2
          go_roundg f'
          case measure => omega
          case rel =>
            have hb2 := (St.bs_no (fun c => !ltOf cf d[mid + m - 1 - c]! d[c]!) f' i j hlt (by rw [← HQ.out, ← HT.out, hlv]; rfl)).symm.trans HB.out
            rw [← HQ.out] at hb2
            exact ⟨i, q, rfl, rfl, by omega, by omega, by omega, by omega, S2, hb2⟩
        | false =>
          have ea : ((t : Int)).toNat = t := by omega
          have pa : (0 : Int) ≤ (t : Int) := by omega
          have ba : (t : Int) < (d.size : Int) := by omega
          have ra : IntKind.i64.wrap ((t : Int)) = (t : Int) := by rw [IntKind.wrap_i64]; omega
          have ec : ((q : Int)).toNat = q := by omega
          have pc : (0 : Int) ≤ (q : Int) := by omega
          have bc : (q : Int) < (d.size : Int) := by omega
          have rc : IntKind.i64.wrap ((q : Int)) = (q : Int) := by rw [IntKind.wrap_i64]; omega
          obtain ⟨xx, hxx⟩ : ∃ x, x = d[t]! := ⟨_, rfl⟩
          obtain ⟨yy, hyy⟩ : ∃ x, x = d[q]! := ⟨_, rfl⟩
          have lda := S1.out.ld R (by omega) P (t) (by omega)
          have ldb := S1.out.ld R (by omega) P (q) (by omega)
          rw [← hxx] at lda
          rw [← hyy] at ldb
          have hcc := S1.out.cmp HC.out (by omega) xx yy
          have hvv : ¬ cf xx yy < 0 := by rw [hxx, hyy]; exact of_decide_eq_false hlv
          have hdd : decide (cf xx yy < 0) = false := decide_eq_false hvv
          clear hxx hyy
          go_wp2_with fail
          go_quiet_grown (first | (go_at_fn g; refine Calls.grown_of (hcc _ _)))
          have S2 : Aside (SWK enc k w0 blk off d (grow (wr.drewN nq) osq)) := S1.out.grown nq osq
          clear lda ldb hcc S1 ea pa ba ra ec pc bc rc
          generalize grow (wr.drewN nq) osq = w2 at S2 ⊢
          clear nq osq
          go_wp2
          go_roundg f'
          case measure => omega
          case rel =>
            have hb2 := (St.bs_yes (fun c => !ltOf cf d[mid + m - 1 - c]! d[c]!) f' i j hlt (by rw [← HQ.out, ← HT.out, hlv]; rfl)).symm.trans HB.out
            rw [← HQ.out] at hb2
            exact ⟨q + 1, j, by first | go_num | (congr 1; omega), rfl, by omega, by omega, by omega, by omega, S2, hb2⟩
      · have hltz : ¬ (i : Int) < (j : Int) := by omega
        have hi : St.bs (fun c => !ltOf cf d[mid + m - 1 - c]! d[c]!) gk i j = i := St.bs_stop _ _ _ _ hlt
        have HG : Hid (St.symMerge (ltOf cf) (f + 1) a m b d = symTail (ltOf cf) f a m b mid d i) := by show _ = _; rw [hg.out, ← HB.out, hi]
        clear HB hi hg
        have hij : i = j := by omega
        clear hij
        obtain ⟨e, he⟩ : ∃ e, e = mid + m - i := ⟨_, rfl⟩
        have ce : (mid : Int) + (m : Int) - (i : Int) = (e : Int) := by omega
        have e1 : mid + m ≤ e + i := by omega
        have e2 : e + i ≤ mid + m := by omega
        have HE : Hid (e = mid + m - i) := he
        clear he
        by_cases qA : i < m
        · by_cases qB : i < mid
          · by_cases qC : a < i
            · by_cases qD : e < b
              · have zA : (i : Int) < (m : Int) := by omega
                have zB : (m : Int) < (e : Int) := by omega
                have zC : (a : Int) < (i : Int) := by omega
                have zE : (i : Int) < (mid : Int) := by omega
                have zF : (mid : Int) < (e : Int) := by omega
                have zD : (e : Int) < (b : Int) := by omega
                go_wp2_with fail
                refine (ROT.out i m e d _ rfl S1 (by omega) (by omega) (by omega)).mono ?_
                rintro e' w2 ⟨rfl, S2'⟩
                have S2 : Aside (SWK enc k w0 blk off (St.rotate i m e d) w2) := S2'
                clear S2' S1
                go_wp2_with fail
                refine (IH.out a i mid (St.rotate i m e d) _ ((St.size_rotateLoop _ _ _ _ _).trans rfl) S2 (by omega) (by omega) (by omega) (by omega)).mono ?_
                rintro e' w3 ⟨rfl, S3'⟩
                have S3 : Aside (SWK enc k w0 blk off (St.symMerge (ltOf cf) f a i mid (St.rotate i m e d)) w3) := S3'
                clear S3' S2
                go_wp2_with fail
                refine (IH.out mid e b (St.symMerge (ltOf cf) f a i mid (St.rotate i m e d)) _ ((St.size_symMerge _ _ _ _ _ _).trans ((St.size_rotateLoop _ _ _ _ _).trans rfl)) S3 (by omega) (by omega) (by omega) (by omega)).mono ?_
                rintro e' w4 ⟨rfl, S4'⟩
                have S4 : Aside (SWK enc k w0 blk off (St.symMerge (ltOf cf) f mid e b (St.symMerge (ltOf cf) f a i mid (St.rotate i m e d))) w4) := S4'
                clear S4' S3
                go_wp2
                go_end0
                refine ⟨rfl, ?_⟩
                rw [HG.out]
                unfold symTail
                simp only [← HE.out]
                rw [if_pos (show mid < e ∧ e < b from by omega)]
                rw [if_pos (show a < i ∧ i < mid from by omega)]
                rw [if_pos (show i < m ∧ m < e from by omega)]
                exact S4
              · have zA : (i : Int) < (m : Int) := by omega
                have zB : (m : Int) < (e : Int) := by omega
                have zC : (a : Int) < (i : Int) := by omega
                have zE : (i : Int) < (mid : Int) := by omega
                have zF : (mid : Int) < (e : Int) := by omega
                have zD : ¬ ((e : Int) < (b : Int)) := by omega
                go_wp2_with fail
                refine (ROT.out i m e d _ rfl S1 (by omega) (by omega) (by omega)).mono ?_
                rintro e' w2 ⟨rfl, S2'⟩
                have S2 : Aside (SWK enc k w0 blk off (St.rotate i m e d) w2) := S2'
                clear S2' S1
                go_wp2_with fail
                refine (IH.out a i mid (St.rotate i m e d) _ ((St.size_rotateLoop _ _ _ _ _).trans rfl) S2 (by omega) (by omega) (by omega) (by omega)).mono ?_
                rintro e' w3 ⟨rfl, S3'⟩
                have S3 : Aside (SWK enc k w0 blk off (St.symMerge (ltOf cf) f a i mid (St.rotate i m e d)) w3) := S3'
                clear S3' S2
                go_wp2
                go_end0
                refine ⟨rfl, ?_⟩
                rw [HG.out]
                unfold symTail
                simp only [← HE.out]
                rw [if_neg (show ¬ (mid < e ∧ e < b) from by omega)]
                rw [if_pos (show a < i ∧ i < mid from by omega)]
                rw [if_pos (show i < m ∧ m < e from by omega)]
                exact S3
            · by_cases qD : e < b
              · have zA : (i : Int) < (m : Int) := by omega
                have zB : (m : Int) < (e : Int) := by omega
                have zC : ¬ ((a : Int) < (i : Int)) := by omega
                have zE : (i : Int) < (mid : Int) := by omega
                have zF : (mid : Int) < (e : Int) := by omega
                have zD : (e : Int) < (b : Int) := by omega
                go_wp2_with fail
                refine (ROT.out i m e d _ rfl S1 (by omega) (by omega) (by omega)).mono ?_
                rintro e' w2 ⟨rfl, S2'⟩
                have S2 : Aside (SWK enc k w0 blk off (St.rotate i m e d) w2) := S2'
                clear S2' S1
                go_wp2_with fail
                refine (IH.out mid e b (St.rotate i m e d) _ ((St.size_rotateLoop _ _ _ _ _).trans rfl) S2 (by omega) (by omega) (by omega) (by omega)).mono ?_
                rintro e' w3 ⟨rfl, S3'⟩
                have S3 : Aside (SWK enc k w0 blk off (St.symMerge (ltOf cf) f mid e b (St.rotate i m e d)) w3) := S3'
                clear S3' S2
                go_wp2
                go_end0
                refine ⟨rfl, ?_⟩
                rw [HG.out]
                unfold symTail
                simp only [← HE.out]
                rw [if_pos (show mid < e ∧ e < b from by omega)]
                rw [if_neg (show ¬ (a < i ∧ i < mid) from by omega)]
                rw [if_pos (show i < m ∧ m < e from by omega)]
                exact S3
              · have zA : (i : Int) < (m : Int) := by omega
                have zB : (m : Int) < (e : Int) := by omega
                have zC : ¬ ((a : Int) < (i : Int)) := by omega
                have zE : (i : Int) < (mid : Int) := by omega
                have zF : (mid : Int) < (e : Int) := by omega
                have zD : ¬ ((e : Int) < (b : Int)) := by omega
                go_wp2_with fail
                refine (ROT.out i m e d _ rfl S1 (by omega) (by omega) (by omega)).mono ?_
                rintro e' w2 ⟨rfl, S2'⟩
                have S2 : Aside (SWK enc k w0 blk off (St.rotate i m e d) w2) := S2'
                clear S2' S1
                go_wp2
                go_end0
                refine ⟨rfl, ?_⟩
                rw [HG.out]
                unfold symTail
                simp only [← HE.out]
                rw [if_neg (show ¬ (mid < e ∧ e < b) from by omega)]
                rw [if_neg (show ¬ (a < i ∧ i < mid) from by omega)]
                rw [if_pos (show i < m ∧ m < e from by omega)]
                exact S2
          · by_cases qC : a < i
            · by_cases qD : e < b
              · have zA : (i : Int) < (m : Int) := by omega
                have zB : ¬ ((m : Int) < (e : Int)) := by omega
                have zC : (a : Int) < (i : Int) := by omega
                have zE : ¬ ((i : Int) < (mid : Int)) := by omega
                have zF : (mid : Int) < (e : Int) := by omega
                have zD : (e : Int) < (b : Int) := by omega
                go_wp2_with fail
                refine (IH.out mid e b d _ rfl S1 (by omega) (by omega) (by omega) (by omega)).mono ?_
                rintro e' w2 ⟨rfl, S2'⟩
                have S2 : Aside (SWK enc k w0 blk off (St.symMerge (ltOf cf) f mid e b d) w2) := S2'
                clear S2' S1
                go_wp2
                go_end0
                refine ⟨rfl, ?_⟩
                rw [HG.out]
                unfold symTail
                simp only [← HE.out]
                rw [if_pos (show mid < e ∧ e < b from by omega)]
                rw [if_neg (show ¬ (a < i ∧ i < mid) from by omega)]
                rw [if_neg (show ¬ (i < m ∧ m < e) from by omega)]
                exact S2
              · have zA : (i : Int) < (m : Int) := by omega
                have zB : ¬ ((m : Int) < (e : Int)) := by omega
                have zC : (a : Int) < (i : Int) := by omega
                have zE : ¬ ((i : Int) < (mid : Int)) := by omega
                have zF : (mid : Int) < (e : Int) := by omega
                have zD : ¬ ((e : Int) < (b : Int)) := by omega
                go_wp2
                go_end0
                refine ⟨rfl, ?_⟩
                rw [HG.out]
                unfold symTail
                simp only [← HE.out]
                rw [if_neg (show ¬ (mid < e ∧ e < b) from by omega)]
                rw [if_neg (show ¬ (a < i ∧ i < mid) from by omega)]
                rw [if_neg (show ¬ (i < m ∧ m < e) from by omega)]
                exact S1
            · by_cases qD : e < b
              · have zA : (i : Int) < (m : Int) := by omega
                have zB : ¬ ((m : Int) < (e : Int)) := by omega
                have zC : ¬ ((a : Int) < (i : Int)) := by omega
                have zE : ¬ ((i : Int) < (mid : Int)) := by omega
                have zF : (mid : Int) < (e : Int) := by omega
                have zD : (e : Int) < (b : Int) := by omega
                go_wp2_with fail
                refine (IH.out mid e b d _ rfl S1 (by omega) (by omega) (by omega) (by omega)).mono ?_
                rintro e' w2 ⟨rfl, S2'⟩
                have S2 : Aside (SWK enc k w0 blk off (St.symMerge (ltOf cf) f mid e b d) w2) := S2'
                clear S2' S1
                go_wp2
                go_end0
                refine ⟨rfl, ?_⟩
                rw [HG.out]
                unfold symTail
                simp only [← HE.out]
                rw [if_pos (show mid < e ∧ e < b from by omega)]
                rw [if_neg (show ¬ (a < i ∧ i < mid) from by omega)]
                rw [if_neg (show ¬ (i < m ∧ m < e) from by omega)]
                exact S2
              · have zA : (i : Int) < (m : Int) := by omega
                have zB : ¬ ((m : Int) < (e : Int)) := by omega
                have zC : ¬ ((a : Int) < (i : Int)) := by omega
                have zE : ¬ ((i : Int) < (mid : Int)) := by omega
                have zF : (mid : Int) < (e : Int) := by omega
                have zD : ¬ ((e : Int) < (b : Int)) := by omega
                go_wp2
                go_end0
                refine ⟨rfl, ?_⟩
                rw [HG.out]
                unfold symTail
                simp only [← HE.out]
                rw [if_neg (show ¬ (mid < e ∧ e < b) from by omega)]
                rw [if_neg (show ¬ (a < i ∧ i < mid) from by omega)]
                rw [if_neg (show ¬ (i < m ∧ m < e) from by omega)]
                exact S1
        · by_cases qB : i < mid
          · by_cases qC : a < i
            · by_cases qD : e < b
              · exfalso; omega
              · exfalso; omega
            · by_cases qD : e < b
              · exfalso; omega
              · exfalso; omega
          · by_cases qC : a < i
            · by_cases qD : e < b
              · exfalso; omega
              · exfalso; omega
            · by_cases qD : e < b
              · exfalso; omega
              · exfalso; omega
  · have hmz : ¬ (mid : Int) < (m : Int) := by omega
    have hg : Hid (St.symMerge (ltOf cf) (f + 1) a m b d = symTail (ltOf cf) f a m b mid d (St.bs (fun c => !ltOf cf d[mid + m - 1 - c]! d[c]!) (m - a) a m)) := by
      show _ = _
      unfold St.symMerge symTail
      rw [if_neg (by omega), if_neg (by omega)]
      simp only [← HM.out, if_neg (show ¬ m > mid from hmm)]
    go_enter L.fSym, Try.ntmps191
    go_wp2
    go_loopg [20, 21, 23] (m - a) (fun kx s10 s11 s12 wr => ∃ (i j : Nat), s10 = .int .i64 i ∧ s11 = .int .i64 j ∧ a ≤ i ∧ i ≤ j ∧ j ≤ m ∧ j - i ≤ kx ∧ Aside (SWK enc k w0 blk off d wr) ∧ Hid (St.bs (fun c => !ltOf cf d[mid + m - 1 - c]! d[c]!) kx i j = St.bs (fun c => !ltOf cf d[mid + m - 1 - c]! d[c]!) (m - a) a m))
    case atStart => exact ⟨a, m, by first | rfl | (congr 1; omega), rfl, by omega, by omega, by omega, by omega, S0, rfl⟩
    case round =>
      clear S0
      obtain ⟨i, j, rfl, rfl, h1, h2, h3, h4, S1, HB⟩ := hrel
      by_cases hlt : i < j
      · have hltz : (i : Int) < (j : Int) := by omega
        obtain ⟨f', rfl⟩ : ∃ f, gk = f + 1 := ⟨gk - 1, by omega⟩
        obtain ⟨q, hq⟩ : ∃ q, q = (i + j) / 2 := ⟨_, rfl⟩
        have cq : ((i : Int) + (j : Int)) / 2 = (q : Int) := by omega
        have q1 : i ≤ q := by omega
        have q2 : q < j := by omega
        have HQ : Hid (q = (i + j) / 2) := hq
        clear hq
        obtain ⟨t, ht⟩ : ∃ t, t = mid + m - 1 - q := ⟨_, rfl⟩
        have ct : (mid : Int) + (m : Int) - 1 - (q : Int) = (t : Int) := by omega
        have t1 : t < d.size := by omega
        have cw : IntKind.i64.wrap ((mid : Int) + (m : Int) - 1 - (q : Int)) = (t : Int) := by rw [IntKind.wrap_i64]; omega
        have HT : Hid (t = mid + m - 1 - q) := ht
        clear ht
        cases hlv : ltOf cf d[t]! d[q]! with
        | true =>
          have ea : ((t : Int)).toNat = t := by omega
          have pa : (0 : Int) ≤ (t : Int) := by omega
          have ba : (t : Int) < (d.size : Int) := by omega
          have ra : IntKind.i64.wrap ((t : Int)) = (t : Int) := by rw [IntKind.wrap_i64]; omega
          have ec : ((q : Int)).toNat = q := by omega
          have pc : (0 : Int) ≤ (q : Int) := by omega
          have bc : (q : Int) < (d.size : Int) := by omega
          have rc : IntKind.i64.wrap ((q : Int)) = (q : Int) := by rw [IntKind.wrap_i64]; omega
          obtain ⟨xx, hxx⟩ : ∃ x, x = d[t]! := ⟨_, rfl⟩
          obtain ⟨yy, hyy⟩ : ∃ x, x = d[q]! := ⟨_, rfl⟩
          have lda := S1.out.ld R (by omega) P (t) (by omega)
          have ldb := S1.out.ld R (by omega) P (q) (by omega)
          rw [← hxx] at lda
          rw [← hyy] at ldb
          have hcc := S1.out.cmp HC.out (by omega) xx yy
          have hvv : cf xx yy < 0 := by rw [hxx, hyy]; exact of_decide_eq_true hlv
          have hdd : decide (cf xx yy < 0) = true := decide_eq_true hvv
          clear hxx hyy
          go_wp2_with fail
          go_quiet_grown (first | (go_at_fn g; refine Calls.grown_of (hcc _ _)))
          have S2 : Aside (SWK enc k w0 blk off d (grow (wr.drewN nq) osq)) := S1.out.grown nq osq
          clear lda ldb hcc S1 ea pa ba ra ec pc bc rc
          generalize grow (wr.drewN nq) osq = w2 at S2 ⊢
          clear nq osq
          go_wp2
          go_roundg f'
          case measure => omega
          case rel =>
            have hb2 := (St.bs_no (fun c => !ltOf cf d[mid + m - 1 - c]! d[c]!) f' i j hlt (by rw [← HQ.out, ← HT.out, hlv]; rfl)).symm.trans HB.out
            rw [← HQ.out] at hb2
            exact ⟨i, q, rfl, rfl, by omega, by omega, by omega, by omega, S2, hb2⟩
        | false =>
          have ea : ((t : Int)).toNat = t := by omega
          have pa : (0 : Int) ≤ (t : Int) := by omega
          have ba : (t : Int) < (d.size : Int) := by omega
          have ra : IntKind.i64.wrap ((t : Int)) = (t : Int) := by rw [IntKind.wrap_i64]; omega
          have ec : ((q : Int)).toNat = q := by omega
          have pc : (0 : Int) ≤ (q : Int) := by omega
          have bc : (q : Int) < (d.size : Int) := by omega
          have rc : IntKind.i64.wrap ((q : Int)) = (q : Int) := by rw [IntKind.wrap_i64]; omega
          obtain ⟨xx, hxx⟩ : ∃ x, x = d[t]! := ⟨_, rfl⟩
          obtain ⟨yy, hyy⟩ : ∃ x, x = d[q]! := ⟨_, rfl⟩
          have lda := S1.out.ld R (by omega) P (t) (by omega)
          have ldb := S1.out.ld R (by omega) P (q) (by omega)
          rw [← hxx] at lda
          rw [← hyy] at ldb
          have hcc := S1.out.cmp HC.out (by omega) xx yy
          have hvv : ¬ cf xx yy < 0 := by rw [hxx, hyy]; exact of_decide_eq_false hlv
          have hdd : decide (cf xx yy < 0) = false := decide_eq_false hvv
          clear hxx hyy
          go_wp2_with fail
          go_quiet_grown (first | (go_at_fn g; refine Calls.grown_of (hcc _ _)))
          have S2 : Aside (SWK enc k w0 blk off d (grow (wr.drewN nq) osq)) := S1.out.grown nq osq
          clear lda ldb hcc S1 ea pa ba ra ec pc bc rc
          generalize grow (wr.drewN nq) osq = w2 at S2 ⊢
          clear nq osq
          go_wp2
          go_roundg f'
          case measure => omega
          case rel =>
            have hb2 := (St.bs_yes (fun c => !ltOf cf d[mid + m - 1 - c]! d[c]!) f' i j hlt (by rw [← HQ.out, ← HT.out, hlv]; rfl)).symm.trans HB.out
            rw [← HQ.out] at hb2
            exact ⟨q + 1, j, by first | go_num | (congr 1; omega), rfl, by omega, by omega, by omega, by omega, S2, hb2⟩
      · have hltz : ¬ (i : Int) < (j : Int) := by omega
        have hi : St.bs (fun c => !ltOf cf d[mid + m - 1 - c]! d[c]!) gk i j = i := St.bs_stop _ _ _ _ hlt
        have HG : Hid (St.symMerge (ltOf cf) (f + 1) a m b d = symTail (ltOf cf) f a m b mid d i) := by show _ = _; rw [hg.out, ← HB.out, hi]
        clear HB hi hg
        have hij : i = j := by omega
        clear hij
        obtain ⟨e, he⟩ : ∃ e, e = mid + m - i := ⟨_, rfl⟩
        have ce : (mid : Int) + (m : Int) - (i : Int) = (e : Int) := by omega
        have e1 : mid + m ≤ e + i := by omega
        have e2 : e + i ≤ mid + m := by omega
        have HE : Hid (e = mid + m - i) := he
        clear he
        by_cases qA : i < m
        · by_cases qB : i < mid
          · by_cases qC : a < i
            · by_cases qD : e < b
              · have zA : (i : Int) < (m : Int) := by omega
                have zB : (m : Int) < (e : Int) := by omega
                have zC : (a : Int) < (i : Int) := by omega
                have zE : (i : Int) < (mid : Int) := by omega
                have zF : (mid : Int) < (e : Int) := by omega
                have zD : (e : Int) < (b : Int) := by omega
                go_wp2_with fail
                refine (ROT.out i m e d _ rfl S1 (by omega) (by omega) (by omega)).mono ?_
                rintro e' w2 ⟨rfl, S2'⟩
                have S2 : Aside (SWK enc k w0 blk off (St.rotate i m e d) w2) := S2'
                clear S2' S1
                go_wp2_with fail
                refine (IH.out a i mid (St.rotate i m e d) _ ((St.size_rotateLoop _ _ _ _ _).trans rfl) S2 (by omega) (by omega) (by omega) (by omega)).mono ?_
                rintro e' w3 ⟨rfl, S3'⟩
                have S3 : Aside (SWK enc k w0 blk off (St.symMerge (ltOf cf) f a i mid (St.rotate i m e d)) w3) := S3'
                clear S3' S2
                go_wp2_with fail
                refine (IH.out mid e b (St.symMerge (ltOf cf) f a i mid (St.rotate i m e d)) _ ((St.size_symMerge _ _ _ _ _ _).trans ((St.size_rotateLoop _ _ _ _ _).trans rfl)) S3 (by omega) (by omega) (by omega) (by omega)).mono ?_
                rintro e' w4 ⟨rfl, S4'⟩
                have S4 : Aside (SWK enc k w0 blk off (St.symMerge (ltOf cf) f mid e b (St.symMerge (ltOf cf) f a i mid (St.rotate i m e d))) w4) := S4'
                clear S4' S3
                go_wp2
                go_end0
                refine ⟨rfl, ?_⟩
                rw [HG.out]
                unfold symTail
                simp only [← HE.out]
                rw [if_pos (show mid < e ∧ e < b from by omega)]
                rw [if_pos (show a < i ∧ i < mid from by omega)]
                rw [if_pos (show i < m ∧ m < e from by omega)]
                exact S4
              · have zA : (i : Int) < (m : Int) := by omega
                have zB : (m : Int) < (e : Int) := by omega
                have zC : (a : Int) < (i : Int) := by omega
                have zE : (i : Int) < (mid : Int) := by omega
                have zF : (mid : Int) < (e : Int) := by omega
                have zD : ¬ ((e : Int) < (b : Int)) := by omega
                go_wp2_with fail
                refine (ROT.out i m e d _ rfl S1 (by omega) (by omega) (by omega)).mono ?_
                rintro e' w2 ⟨rfl, S2'⟩
                have S2 : Aside (SWK enc k w0 blk off (St.rotate i m e d) w2) := S2'
                clear S2' S1
                go_wp2_with fail
                refine (IH.out a i mid (St.rotate i m e d) _ ((St.size_rotateLoop _ _ _ _ _).trans rfl) S2 (by omega) (by omega) (by omega) (by omega)).mono ?_
                rintro e' w3 ⟨rfl, S3'⟩
                have S3 : Aside (SWK enc k w0 blk off (St.symMerge (ltOf cf) f a i mid (St.rotate i m e d)) w3) := S3'
                clear S3' S2
                go_wp2
                go_end0
                refine ⟨rfl, ?_⟩
                rw [HG.out]
                unfold symTail
                simp only [← HE.out]
                rw [if_neg (show ¬ (mid < e ∧ e < b) from by omega)]
                rw [if_pos (show a < i ∧ i < mid from by omega)]
                rw [if_pos (show i < m ∧ m < e from by omega)]
                exact S3
            · by_cases qD : e < b
              · have zA : (i : Int) < (m : Int) := by omega
                have zB : (m : Int) < (e : Int) := by omega
                have zC : ¬ ((a : Int) < (i : Int)) := by omega
                have zE : (i : Int) < (mid : Int) := by omega
                have zF : (mid : Int) < (e : Int) := by omega
                have zD : (e : Int) < (b : Int) := by omega
                go_wp2_with fail
                refine (ROT.out i m e d _ rfl S1 (by omega) (by omega) (by omega)).mono ?_
                rintro e' w2 ⟨rfl, S2'⟩
                have S2 : Aside (SWK enc k w0 blk off (St.rotate i m e d) w2) := S2'
                clear S2' S1
                go_wp2_with fail
                refine (IH.out mid e b (St.rotate i m e d) _ ((St.size_rotateLoop _ _ _ _ _).trans rfl) S2 (by omega) (by omega) (by omega) (by omega)).mono ?_
                rintro e' w3 ⟨rfl, S3'⟩
                have S3 : Aside (SWK enc k w0 blk off (St.symMerge (ltOf cf) f mid e b (St.rotate i m e d)) w3) := S3'
                clear S3' S2
                go_wp2
                go_end0
                refine ⟨rfl, ?_⟩
                rw [HG.out]
                unfold symTail
                simp only [← HE.out]
                rw [if_pos (show mid < e ∧ e < b from by omega)]
                rw [if_neg (show ¬ (a < i ∧ i < mid) from by omega)]
                rw [if_pos (show i < m ∧ m < e from by omega)]
                exact S3
              · have zA : (i : Int) < (m : Int) := by omega
                have zB : (m : Int) < (e : Int) := by omega
                have zC : ¬ ((a : Int) < (i : Int)) := by omega
                have zE : (i : Int) < (mid : Int) := by omega
                have zF : (mid : Int) < (e : Int) := by omega
                have zD : ¬ ((e : Int) < (b : Int)) := by omega
                go_wp2_with fail
                refine (ROT.out i m e d _ rfl S1 (by omega) (by omega) (by omega)).mono ?_
                rintro e' w2 ⟨rfl, S2'⟩
                have S2 : Aside (SWK enc k w0 blk off (St.rotate i m e d) w2) := S2'
                clear S2' S1
                go_wp2
                go_end0
                refine ⟨rfl, ?_⟩
                rw [HG.out]
                unfold symTail
                simp only [← HE.out]
                rw [if_neg (show ¬ (mid < e ∧ e < b) from by omega)]
                rw [if_neg (show ¬ (a < i ∧ i < mid) from by omega)]
                rw [if_pos (show i < m ∧ m < e from by omega)]
                exact S2
          · by_cases qC : a < i
            · by_cases qD : e < b
              · have zA : (i : Int) < (m : Int) := by omega
                have zB : ¬ ((m : Int) < (e : Int)) := by omega
                have zC : (a : Int) < (i : Int) := by omega
                have zE : ¬ ((i : Int) < (mid : Int)) := by omega
                have zF : (mid : Int) < (e : Int) := by omega
                have zD : (e : Int) < (b : Int) := by omega
                go_wp2_with fail
                refine (IH.out mid e b d _ rfl S1 (by omega) (by omega) (by omega) (by omega)).mono ?_
                rintro e' w2 ⟨rfl, S2'⟩
                have S2 : Aside (SWK enc k w0 blk off (St.symMerge (ltOf cf) f mid e b d) w2) := S2'
                clear S2' S1
                go_wp2
                go_end0
                refine ⟨rfl, ?_⟩
                rw [HG.out]
                unfold symTail
                simp only [← HE.out]
                rw [if_pos (show mid < e ∧ e < b from by omega)]
                rw [if_neg (show ¬ (a < i ∧ i < mid) from by omega)]
                rw [if_neg (show ¬ (i < m ∧ m < e) from by omega)]
                exact S2
              · have zA : (i : Int) < (m : Int) := by omega
                have zB : ¬ ((m : Int) < (e : Int)) := by omega
                have zC : (a : Int) < (i : Int) := by omega
                have zE : ¬ ((i : Int) < (mid : Int)) := by omega
                have zF : (mid : Int) < (e : Int) := by omega
                have zD : ¬ ((e : Int) < (b : Int)) := by omega
                go_wp2
                go_end0
                refine ⟨rfl, ?_⟩
                rw [HG.out]
                unfold symTail
                simp only [← HE.out]
                rw [if_neg (show ¬ (mid < e ∧ e < b) from by omega)]
                rw [if_neg (show ¬ (a < i ∧ i < mid) from by omega)]
                rw [if_neg (show ¬ (i < m ∧ m < e) from by omega)]
                exact S1
            · by_cases qD : e < b
              · have zA : (i : Int) < (m : Int) := by omega
                have zB : ¬ ((m : Int) < (e : Int)) := by omega
                have zC : ¬ ((a : Int) < (i : Int)) := by omega
                have zE : ¬ ((i : Int) < (mid : Int)) := by omega
                have zF : (mid : Int) < (e : Int) := by omega
                have zD : (e : Int) < (b : Int) := by omega
                go_wp2_with fail
                refine (IH.out mid e b d _ rfl S1 (by omega) (by omega) (by omega) (by omega)).mono ?_
                rintro e' w2 ⟨rfl, S2'⟩
                have S2 : Aside (SWK enc k w0 blk off (St.symMerge (ltOf cf) f mid e b d) w2) := S2'
                clear S2' S1
                go_wp2
                go_end0
                refine ⟨rfl, ?_⟩
                rw [HG.out]
                unfold symTail
                simp only [← HE.out]
                rw [if_pos (show mid < e ∧ e < b from by omega)]
                rw [if_neg (show ¬ (a < i ∧ i < mid) from by omega)]
                rw [if_neg (show ¬ (i < m ∧ m < e) from by omega)]
                exact S2
              · have zA : (i : Int) < (m : Int) := by omega
                have zB : ¬ ((m : Int) < (e : Int)) := by omega
                have zC : ¬ ((a : Int) < (i : Int)) := by omega
                have zE : ¬ ((i : Int) < (mid : Int)) := by omega
                have zF : (mid : Int) < (e : Int) := by omega
                have zD : ¬ ((e : Int) < (b : Int)) := by omega
                go_wp2
                go_end0
                refine ⟨rfl, ?_⟩
                rw [HG.out]
                unfold symTail
                simp only [← HE.out]
                rw [if_neg (show ¬ (mid < e ∧ e < b) from by omega)]
                rw [if_neg (show ¬ (a < i ∧ i < mid) from by omega)]
                rw [if_neg (show ¬ (i < m ∧ m < e) from by omega)]
                exact S1
        · by_cases qB : i < mid
          · by_cases qC : a < i
            · by_cases qD : e < b
              · have zA : ¬ ((i : Int) < (m : Int)) := by omega
                have zB : (m : Int) < (e : Int) := by omega
                have zC : (a : Int) < (i : Int) := by omega
                have zE : (i : Int) < (mid : Int) := by omega
                have zF : ¬ ((mid : Int) < (e : Int)) := by omega
                have zD : (e : Int) < (b : Int) := by omega
                go_wp2_with fail
                refine (IH.out a i mid d _ rfl S1 (by omega) (by omega) (by omega) (by omega)).mono ?_
                rintro e' w2 ⟨rfl, S2'⟩
                have S2 : Aside (SWK enc k w0 blk off (St.symMerge (ltOf cf) f a i mid d) w2) := S2'
                clear S2' S1
                go_wp2
                go_end0
                refine ⟨rfl, ?_⟩
                rw [HG.out]
                unfold symTail
                simp only [← HE.out]
                rw [if_neg (show ¬ (mid < e ∧ e < b) from by omega)]
                rw [if_pos (show a < i ∧ i < mid from by omega)]
                rw [if_neg (show ¬ (i < m ∧ m < e) from by omega)]
                exact S2
              · exfalso; omega
            · by_cases qD : e < b
              · have zA : ¬ ((i : Int) < (m : Int)) := by omega
                have zB : (m : Int) < (e : Int) := by omega
                have zC : ¬ ((a : Int) < (i : Int)) := by omega
                have zE : (i : Int) < (mid : Int) := by omega
                have zF : ¬ ((mid : Int) < (e : Int)) := by omega
                have zD : (e : Int) < (b : Int) := by omega
                go_wp2
                go_end0
                refine ⟨rfl, ?_⟩
                rw [HG.out]
                unfold symTail
                simp only [← HE.out]
                rw [if_neg (show ¬ (mid < e ∧ e < b) from by omega)]
                rw [if_neg (show ¬ (a < i ∧ i < mid) from by omega)]
                rw [if_neg (show ¬ (i < m ∧ m < e) from by omega)]
                exact S1
              · exfalso; omega
          · by_cases qC : a < i
            · by_cases qD : e < b
              · have zA : ¬ ((i : Int) < (m : Int)) := by omega
                have zB : ¬ ((m : Int) < (e : Int)) := by omega
                have zC : (a : Int) < (i : Int) := by omega
                have zE : ¬ ((i : Int) < (mid : Int)) := by omega
                have zF : ¬ ((mid : Int) < (e : Int)) := by omega
                have zD : (e : Int) < (b : Int) := by omega
                go_wp2
                go_end0
                refine ⟨rfl, ?_⟩
                rw [HG.out]
                unfold symTail
                simp only [← HE.out]
                rw [if_neg (show ¬ (mid < e ∧ e < b) from by omega)]
                rw [if_neg (show ¬ (a < i ∧ i < mid) from by omega)]
                rw [if_neg (show ¬ (i < m ∧ m < e) from by omega)]
                exact S1
              · exfalso; omega
            · by_cases qD : e < b
              · have zA : ¬ ((i : Int) < (m : Int)) := by omega
                have zB : ¬ ((m : Int) < (e : Int)) := by omega
                have zC : ¬ ((a : Int) < (i : Int)) := by omega
                have zE : ¬ ((i : Int) < (mid : Int)) := by omega
                have zF : ¬ ((mid : Int) < (e : Int)) := by omega
                have zD : (e : Int) < (b : Int) := by omega
                go_wp2
                go_end0
                refine ⟨rfl, ?_⟩
                rw [HG.out]
                unfold symTail
                simp only [← HE.out]
                rw [if_neg (show ¬ (mid < e ∧ e < b) from by omega)]
                rw [if_neg (show ¬ (a < i ∧ i < mid) from by omega)]
                rw [if_neg (show ¬ (i < m ∧ m < e) from by omega)]
                exact S1
              · exfalso; omega

theorem symMerge_calls (L : SortL P) (k : Nat) (aE : ∀ w, (isAgg 96).run P w = .ok true w) (zE : ∀ w, (Go.sizeOf 96).run P w = .ok k w) (enc : α → List Value) (cf : α → α → Int) (g : Nat) (cb : Array Value) (blk off cap : Nat) (d0 : Array α) (w0 : World)
    (eg : ∀ args w, (callFunc g args).run P w = .ok (.enter g args) w) (hcmp : CmpLays P g cb enc k cf blk off d0.size w0) (R : RowK enc k w0 blk off d0) (hsz : d0.size < 4611686018427387904) :
    ∀ (f a m b : Nat) (dk : Array α) (W : World), dk.size = d0.size → SWK enc k w0 blk off dk W → a < m → m < b → b ≤ d0.size → b - a ≤ f → Calls P 191 #[.slice (some ⟨blk, off, none⟩) d0.size cap, .int .i64 a, .int .i64 m, .int .i64 b, .func (.func g) #[] cb] W fun e w' => e = .returned (.tuple #[]) ∧ SWK enc k w0 blk off (St.symMerge (ltOf cf) f a m b dk) w' := by
  intro f
  induction f with
  | zero => intro a m b dk W h1 h2 h3 h4 h5 h6; omega
  | succ f ih =>
    intro a m b dk W h1 h2 h3 h4 h5 h6
    by_cases c1 : m ≤ a + 1
    · exact h1 ▸ symOne_calls L k aE zE enc cf g cb blk off cap a m b f d0 dk w0 W eg hcmp R h1.symm h2 h3 c1 h4 (by omega) (by omega)
    · by_cases c2 : b ≤ m + 1
      · exact h1 ▸ symLast_calls L k aE zE enc cf g cb blk off cap a m b f d0 dk w0 W eg hcmp R h1.symm h2 (by omega) h4 c2 (by omega) (by omega)
      · exact h1 ▸ symMerge_step L k aE zE enc cf g cb blk off cap f a m b d0 dk w0 W eg hcmp R h1.symm h2 (fun a m b dk' W' k1 k2 k3 k4 k5 k6 => h1 ▸ ih a m b dk' W' (k1.trans h1) k2 k3 k4 (by omega) k6) (by omega) (by omega) h6 (by omega) (by omega)

end Go.Proofs.Ytnlpdjklbjclpaa
