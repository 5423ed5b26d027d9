/- slices.stableCmpFunc, SortStableFunc. -/
import Derived.Test.YtnlpdjklbjclpaaSortD
namespace Go.Proofs.Ytnlpdjklbjclpaa
open Go.Shelf Go.RowKit Go.Lib Go.Sort
set_option linter.unusedVariables false
variable {P : Program} {α : Type} [Inhabited α]

set_option maxHeartbeats 8000000 in
set_option maxRecDepth 1000000 in
theorem stable_calls (L : SortL P) (k : Nat) (aE : ∀ w, (isAgg 96).run P w = .ok true w) (zE : ∀ w, (Go.sizeOf 96).run P w = .ok k w) (enc : α → List Value) (cf : α → α → Int) (g : Nat) (cb : Array Value) (blk off cap n : Nat) (d0 d : Array α) (w0 w : World)
    (eg : ∀ args w, (callFunc g args).run P w = .ok (.enter g args) w) (hcmp : CmpLays P g cb enc k cf blk off d0.size w0)
    (R : RowK enc k w0 blk off d0) (hs : d0.size = d.size) (S : SWK enc k w0 blk off d w) (hn1 : n ≤ d.size) (hn2 : d.size ≤ n) (hsz : d.size < 1152921504606846976) :
    Calls P 158 #[.slice (some ⟨blk, off, none⟩) d.size cap, .int .i64 n, .func (.func g) #[] cb] w fun e w' => e = .returned (.tuple #[]) ∧ SWK enc k w0 blk off (St.stable (ltOf cf) d) w' := by
  have mixed := L.mixed; have t0 := L.t0; have a0 := L.a0; have z0 := L.z0; have v0 := L.v0; have t3 := L.t3; have a3 := L.a3; have z3 := L.z3; have v3 := L.v3; have t4 := L.t4; have a4 := L.a4; have z4 := L.z4; have v4 := L.v4; have tS := L.tS; have aS := L.aS; have zS := L.zS; have vS := L.vS; have tF := L.tF; have aF := L.aF; have zF := L.zF; have vF := L.vF; have tU := L.tU; have aU := L.aU; have zU := L.zU; have vU := L.vU; have eSwap := L.eSwap; have eRot := L.eRot; have eIns := L.eIns; have eSym := L.eSym; have eSta := L.eSta
  have S0 : Aside (SWK enc k w0 blk off d w) := S
  have INS : Aside _ := fun (x y : Nat) (dk : Array α) (W : World) (h1 : dk.size = d.size) (h2 : SWK enc k w0 blk off dk W) (h3 : x ≤ y) (h4 : y ≤ d.size) => h1 ▸ insertion_calls L k aE zE enc cf g cb blk off cap x y d0 dk w0 W eg hcmp R (by omega) h2 h3 (by omega) (by omega)
  have SYM : Aside _ := fun (f x y z : Nat) (dk : Array α) (W : World) (h1 : dk.size = d.size) (h2 : SWK enc k w0 blk off dk W) (h3 : x < y) (h4 : y < z) (h5 : z ≤ d.size) (h6 : z - x ≤ f) => hs ▸ symMerge_calls L k aE zE enc cf g cb blk off cap d0 w0 eg hcmp R (by omega) f x y z dk W (h1.trans hs.symm) h2 h3 h4 (by omega) h6
  have HT : Hid (St.stable (ltOf cf) d = St.passes (ltOf cf) n (n + 1) 20 (St.blocks (ltOf cf) n (n + 1) 0 d)) := by
    show _ = _
    unfold St.stable
    rw [show d.size = n from by omega]
  clear S hcmp
  go_enter L.fSta, Try.ntmps158
  go_wp2
  go_loopg [7, 8] (n + 1) (fun kx s7 s8 wr => ∃ (x y : Nat) (dk : Array α), s7 = .int .i64 x ∧ s8 = .int .i64 y ∧ y ≤ x + 20 ∧ x + 20 ≤ y ∧ x ≤ n ∧ n < kx + x ∧ dk.size = d.size ∧ Aside (SWK enc k w0 blk off dk wr) ∧ Hid (St.blocks (ltOf cf) n kx x dk = St.blocks (ltOf cf) n (n + 1) 0 d))
  case atStart => exact ⟨0, 20, d, rfl, rfl, by omega, by omega, by omega, by omega, rfl, S0, rfl⟩
  case round =>
    clear S0
    obtain ⟨x, y, dk, rfl, rfl, hy1, hy2, hxn, hkx, hds, S1, HB⟩ := hrel
    by_cases hle : y ≤ n
    · have hlez : (y : Int) ≤ (n : Int) := by omega
      obtain ⟨f, rfl⟩ : ∃ f, gk = f + 1 := ⟨gk - 1, by omega⟩
      have HB2 : Hid (St.blocks (ltOf cf) n f y (insertionSort (ltOf cf) dk x y) = St.blocks (ltOf cf) n (n + 1) 0 d) := by
        show _ = _
        rw [← HB.out, St.blocks_go _ _ _ _ _ (by omega), show x + 20 = y from by omega]
      clear HB
      go_wp2_with fail
      refine (INS.out x y dk _ hds S1 (by omega) (by omega)).mono ?_
      rintro e w2 ⟨rfl, S2⟩
      have S3 : Aside _ := S2
      clear S2 S1
      go_wp2
      go_roundg f
      case measure => omega
      case rel => exact ⟨y, y + 20, insertionSort (ltOf cf) dk x y, rfl, by go_num, by omega, by omega, by omega, by omega, (St.size_insertion _ _ _ _).trans hds, S3, HB2⟩
    · have hlez : ¬ (y : Int) ≤ (n : Int) := by omega
      have HB2 : Hid (insertionSort (ltOf cf) dk x n = St.blocks (ltOf cf) n (n + 1) 0 d) := by
        show _ = _
        rw [← HB.out, St.blocks_stop _ _ _ _ _ (by omega)]
      clear HB
      go_wp2_with fail
      refine (INS.out x n dk _ hds S1 (by omega) (by omega)).mono ?_
      rintro e w2 ⟨rfl, S2⟩
      obtain ⟨d1, hd1⟩ : ∃ q, q = insertionSort (ltOf cf) dk x n := ⟨_, rfl⟩
      have z1 : d1.size = d.size := by rw [hd1]; exact (St.size_insertion _ _ _ _).trans hds
      rw [← hd1] at S2
      have S3 : Aside _ := S2
      have HT2 : Hid (St.stable (ltOf cf) d = St.passes (ltOf cf) n (n + 1) 20 d1) := by show _ = _; rw [HT.out, ← HB2.out, hd1]
      clear S2 S1 HB2 hd1 HT
      go_wp2
      go_loopg [6, 7, 8, 9] (n + 1) (fun kx s6 s7 s8 s9 wr => ∃ (q : Nat) (dk : Array α), s6 = .int .i64 q ∧ 0 < q ∧ q ≤ 2 * n + 20 ∧ n < kx + q ∧ dk.size = d.size ∧ Aside (SWK enc k w0 blk off dk wr) ∧ Hid (St.passes (ltOf cf) n kx q dk = St.passes (ltOf cf) n (n + 1) 20 d1))
      case atStart => exact ⟨20, d1, rfl, by omega, by omega, by omega, z1, S3, rfl⟩
      case round =>
        clear S3
        obtain ⟨q, dk2, rfl, hq0, hq1, hq2, hds2, S1, HP⟩ := hrel
        by_cases hlt : q < n
        · have hltz : (q : Int) < (n : Int) := by omega
          obtain ⟨f, rfl⟩ : ∃ f, gk = f + 1 := ⟨gk - 1, by omega⟩
          have HP2 : Hid (St.passes (ltOf cf) n f (2 * q) (St.pass (ltOf cf) q n (n + 1) 0 dk2) = St.passes (ltOf cf) n (n + 1) 20 d1) := by
            show _ = _
            rw [← HP.out, St.passes_go _ _ _ _ _ hlt]
          clear HP
          go_wp2
          go_loopg [7, 8] (n + 1) (fun kx s7 s8 wr => ∃ (x y : Nat) (dk : Array α), s7 = .int .i64 x ∧ s8 = .int .i64 y ∧ y ≤ x + 2 * q ∧ x + 2 * q ≤ y ∧ x ≤ n ∧ n < kx + x ∧ dk.size = d.size ∧ Aside (SWK enc k w0 blk off dk wr) ∧ Hid (St.pass (ltOf cf) q n kx x dk = St.pass (ltOf cf) q n (n + 1) 0 dk2))
          case atStart => exact ⟨0, 2 * q, dk2, rfl, by first | rfl | go_num | (congr 1; omega), by omega, by omega, by omega, by omega, hds2, S1, rfl⟩
          case round =>
            clear S1
            obtain ⟨x2, y2, dk3, rfl, rfl, hy3, hy4, hxn2, hkx2, hds3, S1, HA⟩ := hrel
            by_cases hle2 : y2 ≤ n
            · have hlez2 : (y2 : Int) ≤ (n : Int) := by omega
              obtain ⟨f3, rfl⟩ : ∃ f, gk = f + 1 := ⟨gk - 1, by omega⟩
              obtain ⟨m2, hm2⟩ : ∃ m, m = x2 + q := ⟨_, rfl⟩
              have cm : (x2 : Int) + (q : Int) = (m2 : Int) := by omega
              have HA2 : Hid (St.pass (ltOf cf) q n f3 y2 (St.symMerge (ltOf cf) (2 * q) x2 m2 y2 dk3) = St.pass (ltOf cf) q n (n + 1) 0 dk2) := by
                show _ = _
                rw [← HA.out, St.pass_go _ _ _ _ _ _ (by omega), show x2 + 2 * q = y2 from by omega, hm2]
              have m21 : x2 < m2 := by omega
              have m22 : m2 < y2 := by omega
              clear HA hm2
              go_wp2_with fail
              refine (SYM.out (2 * q) x2 m2 y2 dk3 _ hds3 S1 m21 m22 (by omega) (by omega)).mono ?_
              rintro e w2 ⟨rfl, S2⟩
              have S3 : Aside _ := S2
              clear S2 S1
              go_wp2
              go_roundg f3
              case measure => omega
              case rel => exact ⟨y2, y2 + 2 * q, St.symMerge (ltOf cf) (2 * q) x2 m2 y2 dk3, rfl, by first | go_num | (congr 1; omega), by omega, by omega, by omega, by omega, (St.size_symMerge _ _ _ _ _ _).trans hds3, S3, HA2⟩
            · have hlez2 : ¬ (y2 : Int) ≤ (n : Int) := by omega
              obtain ⟨f3, rfl⟩ : ∃ f, gk = f + 1 := ⟨gk - 1, by omega⟩
              obtain ⟨m2, hm2⟩ : ∃ m, m = x2 + q := ⟨_, rfl⟩
              have cm : (x2 : Int) + (q : Int) = (m2 : Int) := by omega
              by_cases hmn : m2 < n
              · have hmnz : (m2 : Int) < (n : Int) := by omega
                have HA2 : Hid (St.symMerge (ltOf cf) (n - x2) x2 m2 n dk3 = St.pass (ltOf cf) q n (n + 1) 0 dk2) := by
                  show _ = _
                  rw [← HA.out, St.pass_last _ _ _ _ _ _ (by omega) (by omega), hm2]
                have m21 : x2 < m2 := by omega
                clear HA hm2
                go_wp2_with fail
                refine (SYM.out (n - x2) x2 m2 n dk3 _ hds3 S1 m21 hmn (by omega) (by omega)).mono ?_
                rintro e w2 ⟨rfl, S2⟩
                have S3 : Aside _ := S2
                clear S2 S1
                go_wp2
                go_roundg f
                case measure => omega
                case rel =>
                  refine ⟨2 * q, St.symMerge (ltOf cf) (n - x2) x2 m2 n dk3, by first | go_num | (congr 1; omega), by omega, by omega, by omega, (St.size_symMerge _ _ _ _ _ _).trans hds3, S3, ?_⟩
                  have h := HP2.out
                  rw [← HA2.out] at h
                  exact h
              · have hmnz : ¬ (m2 : Int) < (n : Int) := by omega
                have HA2 : Hid (dk3 = St.pass (ltOf cf) q n (n + 1) 0 dk2) := by
                  show _ = _
                  rw [← HA.out, St.pass_stop _ _ _ _ _ _ (by omega) (by omega)]
                clear HA hm2
                go_wp2
                go_roundg f
                case measure => omega
                case rel =>
                  refine ⟨2 * q, dk3, by first | go_num | (congr 1; omega), by omega, by omega, by omega, hds3, S1, ?_⟩
                  have h := HP2.out
                  rw [← HA2.out] at h
                  exact h
        · have hltz : ¬ (q : Int) < (n : Int) := by omega
          have HP2 : Hid (dk2 = St.passes (ltOf cf) n (n + 1) 20 d1) := by
            show _ = _
            rw [← HP.out, St.passes_stop _ _ _ _ _ hlt]
          clear HP
          go_wp2
          go_end0
          exact ⟨rfl, by rw [HT2.out, ← HP2.out]; exact S1⟩

theorem SortL.lays : SortL Try.prog where
  mixed := by kernel_rfl
  t0 := Try.underlying0
  a0 := Try.isAgg0
  z0 := Try.sizeOf0
  v0 := Try.zeroValue0
  t3 := Try.underlying3
  a3 := Try.isAgg3
  z3 := Try.sizeOf3
  v3 := Try.zeroValue3
  t4 := Try.underlying4
  a4 := Try.isAgg4
  z4 := Try.sizeOf4
  v4 := Try.zeroValue4
  tS := Try.underlying25
  aS := Try.isAgg25
  zS := Try.sizeOf25
  vS := Try.zeroValue25
  tF := Try.underlying160
  aF := Try.isAgg160
  zF := Try.sizeOf160
  vF := Try.zeroValue160
  tU := Try.underlying150
  aU := Try.isAgg150
  zU := Try.sizeOf150
  vU := Try.zeroValue150
  fSwap := Try.func229
  fRot := Try.func214
  fIns := Try.func190
  fSym := Try.func191
  fSta := Try.func158
  eSwap := enters_of Try.func229 (by kernel_rfl) rfl
  eRot := enters_of Try.func214 (by kernel_rfl) rfl
  eIns := enters_of Try.func190 (by kernel_rfl) rfl
  eSym := enters_of Try.func191 (by kernel_rfl) rfl
  eSta := enters_of Try.func158 (by kernel_rfl) rfl

end Go.Proofs.Ytnlpdjklbjclpaa
