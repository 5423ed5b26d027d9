/- The contracts of slices.SortStableFunc's family over rows of structs. -/
import Derived.Test.YtnlpdjklbjclpaaProg
import Derived.Test.YtnlpdjklbjclpaaStable
import Derived.Shelf.SlSortCmp.KitK
import Derived.Sort.WalkB2
import Derived.Sort.WalkB12
import Derived.Deep.LoopGhost
import Derived.KernelRfl
namespace Go.Proofs.Ytnlpdjklbjclpaa
open Go.Shelf Go.RowKit Go.Lib Go.Sort
set_option linter.unusedVariables false

/-- What the family's walks ask of a program. -/
structure SortL (P : Program) : Prop where
  mixed : P.follows .mixedOrders = true
  t0 : P.underlying 0 = some (TypeDesc.tuple #[])
  a0 : ∀ w, (isAgg 0).run P w = .ok false w
  z0 : ∀ w, (Go.sizeOf 0).run P w = .ok 1 w
  v0 : ∀ w, (zeroValue 0).run P w = .ok (Value.tuple #[]) w
  t3 : P.underlying 3 = some (TypeDesc.int IntKind.i64)
  a3 : ∀ w, (isAgg 3).run P w = .ok false w
  z3 : ∀ w, (Go.sizeOf 3).run P w = .ok 1 w
  v3 : ∀ w, (zeroValue 3).run P w = .ok (Value.int IntKind.i64 0) w
  t4 : P.underlying 4 = some (TypeDesc.bool)
  a4 : ∀ w, (isAgg 4).run P w = .ok false w
  z4 : ∀ w, (Go.sizeOf 4).run P w = .ok 1 w
  v4 : ∀ w, (zeroValue 4).run P w = .ok (Value.bool false) w
  tS : P.underlying 25 = some (TypeDesc.slice 96)
  aS : ∀ w, (isAgg 25).run P w = .ok false w
  zS : ∀ w, (Go.sizeOf 25).run P w = .ok 1 w
  vS : ∀ w, (zeroValue 25).run P w = .ok (Value.slice none 0 0) w
  tF : P.underlying 160 = some (TypeDesc.func #[96, 96] #[3] false)
  aF : ∀ w, (isAgg 160).run P w = .ok false w
  zF : ∀ w, (Go.sizeOf 160).run P w = .ok 1 w
  vF : ∀ w, (zeroValue 160).run P w = .ok (Value.nilFunc) w
  tU : P.underlying 150 = some (TypeDesc.int IntKind.u64)
  aU : ∀ w, (isAgg 150).run P w = .ok false w
  zU : ∀ w, (Go.sizeOf 150).run P w = .ok 1 w
  vU : ∀ w, (zeroValue 150).run P w = .ok (Value.int IntKind.u64 0) w
  fSwap : P.funcs[229]? = some Try.f229
  fRot : P.funcs[214]? = some Try.f214
  fIns : P.funcs[190]? = some Try.f190
  fSym : P.funcs[191]? = some Try.f191
  fSta : P.funcs[158]? = some Try.f158
  eSwap : ∀ args w, (callFunc 229 args).run P w = .ok (.enter 229 args) w
  eRot : ∀ args w, (callFunc 214 args).run P w = .ok (.enter 214 args) w
  eIns : ∀ args w, (callFunc 190 args).run P w = .ok (.enter 190 args) w
  eSym : ∀ args w, (callFunc 191 args).run P w = .ok (.enter 191 args) w
  eSta : ∀ args w, (callFunc 158 args).run P w = .ok (.enter 158 args) w

variable {P : Program} {α : Type} [Inhabited α]

set_option maxHeartbeats 4000000 in
set_option maxRecDepth 1000000 in
theorem swapRange_calls (L : SortL P) (k : Nat) (aE : ∀ w, (isAgg 96).run P w = .ok true w) (zE : ∀ w, (Go.sizeOf 96).run P w = .ok k w) (enc : α → List Value) (g : Nat) (cb : Array Value) (blk off cap a b n : Nat) (d0 d : Array α) (w0 w : World)
    (R : RowK enc k w0 blk off d0) (hs : d0.size = d.size) (S : SWK enc k w0 blk off d w) (ha : a + n ≤ d.size) (hb : b + n ≤ d.size) (hsz : d.size < 4611686018427387904) :
    Calls P 229 #[.slice (some ⟨blk, off, none⟩) d.size cap, .int .i64 a, .int .i64 b, .int .i64 n, .func (.func g) #[] cb] w fun e w' => e = .returned (.tuple #[]) ∧ SWK enc k w0 blk off (St.swapRange a b n d) w' := by
  have mixed := L.mixed; have t0 := L.t0; have a0 := L.a0; have z0 := L.z0; have v0 := L.v0; have t3 := L.t3; have a3 := L.a3; have z3 := L.z3; have v3 := L.v3; have t4 := L.t4; have a4 := L.a4; have z4 := L.z4; have v4 := L.v4; have tS := L.tS; have aS := L.aS; have zS := L.zS; have vS := L.vS; have tF := L.tF; have aF := L.aF; have zF := L.zF; have vF := L.vF; have tU := L.tU; have aU := L.aU; have zU := L.zU; have vU := L.vU
  have S0 : Aside (SWK enc k w0 blk off d w) := S
  clear S
  go_enter L.fSwap, Try.ntmps229
  go_wp2
  go_loopg [10] n (fun kx s10 wr => ∃ (i : Nat) (dk : Array α), s10 = .int .i64 i ∧ i ≤ n ∧ n - i ≤ kx ∧ dk.size = d.size ∧ Aside (SWK enc k w0 blk off dk wr) ∧ Hid (St.swapRange (a + i) (b + i) (n - i) dk = St.swapRange a b n d))
  case atStart => exact ⟨0, d, rfl, by omega, by omega, rfl, S0, rfl⟩
  case round =>
    clear S0
    obtain ⟨i, dk, rfl, hin, hkx, hds, S1, heq⟩ := hrel
    by_cases hlt : i < n
    · have hltz : (i : Int) < (n : Int) := by omega
      go_wp2_with fail
      have ea : ((a : Int) + (i : Int)).toNat = a + i := by omega
      have pa : (0 : Int) ≤ (a : Int) + (i : Int) := by omega
      have ba : (a : Int) + (i : Int) < (d.size : Int) := by omega
      have ra : IntKind.i64.wrap ((a : Int) + (i : Int)) = (a : Int) + (i : Int) := by rw [IntKind.wrap_i64]; omega
      have ec : ((b : Int) + (i : Int)).toNat = b + i := by omega
      have pc : (0 : Int) ≤ (b : Int) + (i : Int) := by omega
      have bc : (b : Int) + (i : Int) < (d.size : Int) := by omega
      have rc : IntKind.i64.wrap ((b : Int) + (i : Int)) = (b : Int) + (i : Int) := by rw [IntKind.wrap_i64]; omega
      have S2 : Aside (SWK enc k w0 blk off (swp dk (a + i) (b + i)) ((wr.drew.setCells blk (off + (a + i) * k) (enc dk[b + i]!)).setCells blk (off + (b + i) * k) (enc dk[a + i]!))) := S1.out.swapped R (a + i) (b + i) (by omega) (by omega)
      have l44a := S1.out.ld1 R (by omega) P (a + i) (by omega)
      have l44b := S1.out.ld1 R (by omega) P (b + i) (by omega)
      have s44a := S1.out.st1 R (by omega) P (a + i) (by omega) dk[b + i]!
      have s44b := S1.out.st2 R (by omega) P (a + i) (b + i) (by omega) (by omega) dk[b + i]! dk[a + i]!
      have n44a : (enc dk[a + i]!).length = k := R.hk _
      have n44b : (enc dk[b + i]!).length = k := R.hk _
      generalize enc dk[a + i]! = cI44 at S2 l44a s44b n44a
      generalize enc dk[b + i]! = cJ44 at S2 l44b s44a s44b n44b
      clear S1
      go_wp2_with fail
      go_big_region_o
      clear l44a l44b s44a s44b
      generalize (wr.drew.setCells blk (off + (a + i) * k) cJ44).setCells blk (off + (b + i) * k) cI44 = w2 at S2 ⊢
      go_wp2
      go_roundg (n - (i + 1))
      case measure => omega
      case rel =>
        refine ⟨i + 1, swp dk (a + i) (b + i), by simp, by omega, Nat.le_refl _, by rw [size_swp]; exact hds, S2, ?_⟩
        have h := heq.out
        rw [show n - i = (n - (i + 1)) + 1 from by omega] at h
        exact h
    · have hltz : ¬ (i : Int) < (n : Int) := by omega
      go_wp2
      go_end0
      refine ⟨rfl, ?_⟩
      have h := heq.out
      rw [show n - i = 0 from by omega] at h
      rw [← h]
      exact S1.out


set_option maxHeartbeats 4000000 in
set_option maxRecDepth 1000000 in
theorem rotate_calls (L : SortL P) (k : Nat) (aE : ∀ w, (isAgg 96).run P w = .ok true w) (zE : ∀ w, (Go.sizeOf 96).run P w = .ok k w) (enc : α → List Value) (g : Nat) (cb : Array Value) (blk off cap a m b : Nat) (d0 d : Array α) (w0 w : World)
    (R : RowK enc k w0 blk off d0) (hs : d0.size = d.size) (S : SWK enc k w0 blk off d w) (ha : a < m) (hm : m < b) (hb : b ≤ d.size) (hsz : d.size < 4611686018427387904) :
    Calls P 214 #[.slice (some ⟨blk, off, none⟩) d.size cap, .int .i64 a, .int .i64 m, .int .i64 b, .func (.func g) #[] cb] w fun e w' => e = .returned (.tuple #[]) ∧ SWK enc k w0 blk off (St.rotate a m b d) w' := by
  have mixed := L.mixed; have t0 := L.t0; have a0 := L.a0; have z0 := L.z0; have v0 := L.v0; have t3 := L.t3; have a3 := L.a3; have z3 := L.z3; have v3 := L.v3; have t4 := L.t4; have a4 := L.a4; have z4 := L.z4; have v4 := L.v4; have tS := L.tS; have aS := L.aS; have zS := L.zS; have vS := L.vS; have tF := L.tF; have aF := L.aF; have zF := L.zF; have vF := L.vF; have tU := L.tU; have aU := L.aU; have zU := L.zU; have vU := L.vU; have eSwap := L.eSwap; have eRot := L.eRot; have eIns := L.eIns; have eSym := L.eSym; have eSta := L.eSta
  have S0 : Aside (SWK enc k w0 blk off d w) := S
  have SW : Aside _ := fun (x y n : Nat) (dk : Array α) (W : World) (h1 : dk.size = d.size) (h2 : SWK enc k w0 blk off dk W) (h3 : x + n ≤ d.size) (h4 : y + n ≤ d.size) => h1 ▸ swapRange_calls L k aE zE enc g cb blk off cap x y n d0 dk w0 W R (by omega) h2 (by omega) (by omega) (by omega)
  clear S
  go_enter L.fRot, Try.ntmps214
  go_wp2
  go_loopg [10, 11] (b - a) (fun kx s10 s11 wr => ∃ (i j : Nat) (dk : Array α), s10 = .int .i64 i ∧ s11 = .int .i64 j ∧ 0 < i ∧ 0 < j ∧ i ≤ m - a ∧ j ≤ b - m ∧ i + j ≤ kx ∧ kx ≤ b - a ∧ dk.size = d.size ∧ Aside (SWK enc k w0 blk off dk wr) ∧ Hid (St.rotateLoop m kx i j dk = St.rotate a m b d))
  case atStart => exact ⟨m - a, b - m, d, by simp; omega, by simp; omega, by omega, by omega, by omega, by omega, by omega, by omega, rfl, S0, rfl⟩
  case round =>
    clear S0
    obtain ⟨i, j, dk, rfl, rfl, hi0, hj0, him, hjm, hkx, hkb, hds, S1, heq⟩ := hrel
    obtain ⟨f, rfl⟩ : ∃ f, gk = f + 1 := ⟨gk - 1, by omega⟩
    by_cases hij : i = j
    · subst hij
      have hne : ((i : Int) != (i : Int)) = false := by simp
      have hd : St.swapRange (m - i) m i dk = St.rotate a m b d := by have h := heq.out; unfold St.rotateLoop at h; rwa [if_pos rfl] at h
      have HD : Hid _ := hd
      clear hd heq
      have c1 : (m : Int) - (i : Int) = ((m - i : Nat) : Int) := by omega
      go_wp2_with fail

      refine (SW.out (m - i) m i dk _ hds S1 (by omega) (by omega)).mono ?_
      rintro e w2 ⟨rfl, S2⟩
      rw [HD.out] at S2
      have S3 : Aside _ := S2
      clear S2
      go_wp2
      go_end0
      exact ⟨rfl, S3⟩
    · have hne : ((i : Int) != (j : Int)) = true := by rw [bne_iff_ne]; omega
      by_cases hlt : j < i
      · have hltz : (j : Int) < (i : Int) := by omega
        have hd : St.rotateLoop m f (i - j) j (St.swapRange (m - i) m j dk) = St.rotate a m b d := by have h := heq.out; unfold St.rotateLoop at h; rwa [if_neg hij, if_pos hlt] at h
        have HD : Hid _ := hd
        clear hd heq hij
        have c1 : (m : Int) - (i : Int) = ((m - i : Nat) : Int) := by omega
        go_wp2_with fail

        refine (SW.out (m - i) m j dk _ hds S1 (by omega) (by omega)).mono ?_
        rintro e w2 ⟨rfl, S2⟩
        have S3 : Aside _ := S2
        clear S2 S1
        go_wp2
        go_roundg f
        case measure => omega
        case rel => exact ⟨i - j, j, _, by simp; omega, rfl, by omega, by omega, by omega, by omega, by omega, by omega, (St.size_swapRange _ _ _ _).trans hds, S3, HD⟩
      · have hltz : ¬ (j : Int) < (i : Int) := by omega
        have hd : St.rotateLoop m f i (j - i) (St.swapRange (m - i) (m + j - i) i dk) = St.rotate a m b d := by have h := heq.out; unfold St.rotateLoop at h; rwa [if_neg hij, if_neg hlt] at h
        have HD : Hid _ := hd
        clear hd heq
        have hlt2 : i < j := by omega
        clear hij hlt
        have c1 : (m : Int) - (i : Int) = ((m - i : Nat) : Int) := by omega
        have c2 : (m : Int) + (j : Int) - (i : Int) = ((m + j - i : Nat) : Int) := by omega
        go_wp2_with fail

        refine (SW.out (m - i) (m + j - i) i dk _ hds S1 (by omega) (by omega)).mono ?_
        rintro e w2 ⟨rfl, S2⟩
        have S3 : Aside _ := S2
        clear S2 S1
        go_wp2
        go_roundg f
        case measure => omega
        case rel => exact ⟨i, j - i, _, rfl, by simp; omega, by omega, by omega, by omega, by omega, by omega, by omega, (St.size_swapRange _ _ _ _).trans hds, S3, HD⟩

end Go.Proofs.Ytnlpdjklbjclpaa
