/- slices.SortStableFunc at a row as the printed walks tell it: behind the call the row reads as a sorted permutation. -/
import Derived.Test.YtnlpdjklbjclpaaSortE
import Derived.Test.YtnlpdjklbjclpaaWMore
namespace Go.Proofs.Ytnlpdjklbjclpaa
open Go.Shelf Go.RowKit Go.Lib Go.Sort
open Go.Proofs.YtnlpdjklbjclpaaW.PrintWords Go.Proofs.YtnlpdjklbjclpaaW.PrintLast Go.Proofs.YtnlpdjklbjclpaaW.PrintMore
set_option linter.unusedVariables false
variable {P : Program} {β : Type}

/-- An element of the row that is sorted: its cells, and what they say in every world that has the old one's other blocks. -/
structure El (d : Kd β) (w0 : World) (g : Nat) (ok : Nat → Prop) where
  cs : List Value
  x : β
  len : cs.length = d.sz
  one : ∀ v ∈ cs, v.oneCell' = true
  rd : Kd.FK d w0 (fun k => ok k ∧ k ≠ g) x cs

set_option maxHeartbeats 4000000 in
set_option maxRecDepth 1000000 in
theorem stable_nil (L : SortL P) (A : Option Addr) (c : Nat) (g : Nat) (cb : Array Value) (w : World) :
    Calls P 158 #[.slice A 0 c, .int .i64 0, .func (.func g) #[] cb] w fun e w' => e = .returned (.tuple #[]) ∧ w' = w := by
  have mixed := L.mixed; have t0 := L.t0; have a0 := L.a0; have z0 := L.z0; have v0 := L.v0; have t3 := L.t3; have a3 := L.a3; have z3 := L.z3; have v3 := L.v3; have t4 := L.t4; have a4 := L.a4; have z4 := L.z4; have v4 := L.v4; have tS := L.tS; have aS := L.aS; have zS := L.zS; have vS := L.vS; have tF := L.tF; have aF := L.aF; have zF := L.zF; have vF := L.vF; have eIns := L.eIns
  have hins : Calls P 190 #[.slice A 0 c, .int .i64 0, .int .i64 0, .func (.func g) #[] cb] w fun e w' => e = .returned (.tuple #[]) ∧ w' = w := by
    go_enter L.fIns, Try.ntmps190
    go_wp2
    go_loopg [8] 1 (fun kx s wr => s = .int .i64 1 ∧ wr = w)
    case atStart => exact ⟨rfl, rfl⟩
    case round =>
      obtain ⟨rfl, rfl⟩ := hrel
      go_wp2
      go_end0
      exact ⟨rfl, rfl⟩
  have HI : Aside _ := hins
  clear hins
  go_enter L.fSta, Try.ntmps158
  go_wp2
  go_loopg [7, 8] 1 (fun kx s7 s8 wr => s7 = .int .i64 0 ∧ s8 = .int .i64 20 ∧ wr = w)
  case atStart => exact ⟨rfl, rfl, rfl⟩
  case round =>
    obtain ⟨rfl, rfl, rfl⟩ := hrel
    go_wp2_with fail
    refine Calls.mono HI.out ?_
    rintro e w2 ⟨rfl, rfl⟩
    go_wp2
    go_loopg [6, 7, 8, 9] 1 (fun kx s6 s7 s8 s9 wr => s6 = .int .i64 20 ∧ wr = w2)
    case atStart => exact ⟨rfl, rfl⟩
    case round =>
      obtain ⟨rfl, rfl⟩ := hrel
      go_wp2
      go_end0
      exact ⟨rfl, rfl⟩


/-- Of a world of the sort: every other block is as it was. -/
theorem sortWorldK_heap {α : Type} [Inhabited α] (enc : α → List Value) (k : Nat) (w : World) (blk m : Nat) (dk : Array α) (os : Array Obj) (b : Nat) (hb : b ≠ blk) (hlt : b < w.heap.size) : (sortWorldK enc k w blk 0 m dk os).heap[b]? = w.heap[b]? := by
  unfold sortWorldK
  rw [heap_grow_old _ _ (by rw [size_putRowK]; exact hlt)]
  unfold putRowK putRow mapBlock
  show (Array.modify w.heap blk _)[b]? = _
  rw [Array.getElem?_modify, if_neg (fun e => hb e.symm)]
theorem swk_grown {α : Type} [Inhabited α] {enc : α → List Value} {k : Nat} {w w' : World} {blk : Nat} {dk : Array α} (h : SWK enc k w blk 0 dk w') : w.grownBy w' (some blk) := by
  obtain ⟨n, os, rfl⟩ := h
  refine ⟨rfl, rfl, rfl, size_sortWorldK_c enc k w blk 0 n dk os, fun b hb hne => sortWorldK_heap enc k w blk n dk os b (fun e => hne (by rw [e])) hb⟩

set_option maxHeartbeats 4000000 in
theorem sort_row (L : SortL P) (d : Kd β) (hsz0 : 0 < d.sz) (aE : ∀ w, (isAgg 96).run P w = .ok true w) (zE : ∀ w, (Go.sizeOf 96).run P w = .ok d.sz w) (w0 : World) (base : Nat) (ok : Nat → Prop) (g cap : Nat) (xs : List β)
    (hN : Kd.N d 96 w0 base ok (.slice (some ⟨g, 0, none⟩) xs.length cap) xs) (hx : xs ≠ []) (hlen : xs.length < 1152921504606846976) (cf : β → β → Int) (hS : SWO (fun x y => decide (cf x y < 0))) (gc : Nat)
    (eg : ∀ args w, (callFunc gc args).run P w = .ok (.enter gc args) w)
    (hcmp : ∀ (x y : El d w0 g ok) (W : World), (∀ k, k ≠ g → k < w0.heap.size → W.heap[k]? = w0.heap[k]?) → Calls P gc #[.agg x.cs.toArray, .agg y.cs.toArray] W fun e w' => e = .returned (.int .i64 (cf x.x y.x)) ∧ ∃ q os', w' = grow (W.drewN q) os') :
    Calls P 158 #[.slice (some ⟨g, 0, none⟩) xs.length cap, .int .i64 xs.length, .func (.func gc) #[] #[]] w0 fun e w' => e = .returned (.tuple #[]) ∧ w0.grownBy w' (some g) ∧
      ∃ ys : List β, ys.Perm xs ∧ ys.Pairwise (fun x y => ¬ cf y x < 0) ∧ Kd.F d w' ok (some ⟨g, 0, none⟩) xs.length ys := by
  obtain ⟨hok, rows, hrl, ⟨_, inner, hown, hreps⟩, hfk⟩ := hN
  have hg : ok g := hok g (by simp [Value.ownBlock])
  have hgl : g < w0.heap.size := own_lt hown g (by simp [Value.ownBlock])
  obtain ⟨cur, hh, htk, hcl⟩ : ∃ cur, w0.heap[g]? = some (.cells cur 96 (0, 0)) ∧ cur.toList.take (xs.length * d.sz) = inner ∧ xs.length * d.sz ≤ cur.size := by
    rcases hown.2 with ⟨h0, _⟩ | ⟨g', cap', cur, hv, hb, hh, hnc, hcm, hcs, htk⟩
    · simp at h0
    · have e1 : g = g' := by have := congrArg Value.ownBlock hv; simpa [Value.ownBlock] using this
      subst e1
      have e2 : xs.length ≤ cap' := by rw [← hrl]; exact hnc
      refine ⟨cur, hh, by rw [← hrl]; exact htk, ?_⟩
      rw [hcs]
      exact Nat.mul_le_mul_right _ e2
  have hel : ∀ j : Fin xs.length, ∃ e : El d w0 g ok, e.x = xs[j] ∧ e.cs = (inner.drop (j * d.sz)).take d.sz := by
    intro j
    have hjr : j.1 < rows.length := by rw [hrl]; exact j.2
    have r1 : (inner.drop (j.1 * d.sz)).take d.sz = rows[j.1] := (hreps.2 j.1 rows[j.1] (List.getElem?_eq_getElem hjr)).1
    have r2 : ((inner.drop (j.1 * d.sz)).take d.sz).length = d.sz := (hreps.2 j.1 rows[j.1] (List.getElem?_eq_getElem hjr)).2.1
    have r3 : ∀ u ∈ (inner.drop (j.1 * d.sz)).take d.sz, u.oneCell' = true := (hreps.2 j.1 rows[j.1] (List.getElem?_eq_getElem hjr)).2.2
    have f := hfk j.1 xs[j] rows[j.1] (List.getElem?_eq_getElem j.2) (List.getElem?_eq_getElem hjr)
    rw [r1]
    exact ⟨⟨rows[j.1], xs[j], by rw [← r1]; exact r2, by rw [← r1]; exact r3, Foot.mono f (fun k hk => ⟨hk.1, fun e => hk.2 (by simp [Value.ownBlock, e])⟩)⟩, rfl, rfl⟩
  obtain ⟨dE, hdE⟩ : ∃ dE : Array (El d w0 g ok), dE = Array.ofFn fun j => Classical.choose (hel j) := ⟨_, rfl⟩
  have hds : dE.size = xs.length := by rw [hdE]; simp
  have hdx : ∀ (j : Nat) (hj : j < dE.size), (dE[j]).x = xs[j]'(by omega) ∧ (dE[j]).cs = (inner.drop (j * d.sz)).take d.sz := by
    intro j hj
    have := Classical.choose_spec (hel ⟨j, by omega⟩)
    simp only [hdE, Array.getElem_ofFn]
    exact this
  have hpos : 0 < xs.length := List.length_pos_iff.2 hx
  haveI : Inhabited (El d w0 g ok) := ⟨dE[0]'(by omega)⟩
  have hil : inner.length = xs.length * d.sz := by rw [← hrl]; exact hown.1
  have hH : HoldsK El.cs d.sz w0 g 0 dE := by
    intro t ht
    rw [size_flatK, hds] at ht
    have hq : t / d.sz < dE.size := by rw [hds]; exact (Nat.div_lt_iff_lt_mul hsz0).2 ht
    refine ⟨?_, blk_frozen hh _⟩
    rw [Nat.zero_add, blk_cell hh t, get_flatK _ _ _ t (by rw [hds]; exact ht), getElem!_pos dE _ hq, (hdx _ hq).2]
    have hm := Nat.mod_lt t hsz0
    have hdm := Nat.div_add_mod' t d.sz
    have hti : t < inner.length := by rw [hil]; exact ht
    rw [getElem!_pos _ _ (by rw [List.length_take, List.length_drop, hil]; have := Nat.mul_le_mul_right d.sz (show t / d.sz + 1 ≤ xs.length by omega); rw [Nat.add_mul, Nat.one_mul] at this; omega)]
    simp only [List.getElem_take, List.getElem_drop, id]
    rw [Array.getElem?_eq_getElem (by omega)]
    congr 1
    have : inner[t]'hti = cur[t]'(by omega) := by
      have := List.getElem_take (xs := cur.toList) (j := xs.length * d.sz) (i := t) (h := by rw [htk]; exact hti)
      simp only [htk] at this
      simpa using this
    rw [← this]
    congr 1
    omega
  have hR : RowK El.cs d.sz w0 g 0 dE := ⟨fun x => x.len, fun x => x.one, hH, hgl⟩
  have hC : CmpLays P gc #[] (α := El d w0 g ok) El.cs d.sz (fun x y => cf x.x y.x) g 0 dE.size w0 := by
    intro m os dk hdk x y
    exact hcmp x y _ (fun k hk hlt => sortWorldK_heap El.cs d.sz w0 g m dk os k hk hlt)
  have main := stable_calls L d.sz aE zE El.cs (fun x y => cf x.x y.x) gc #[] g 0 cap xs.length dE dE w0 w0 eg hC hR rfl (SWK.start hH) (by omega) (by omega) (by omega)
  rw [hds] at main
  refine main.mono ?_
  rintro e w' ⟨rfl, hW⟩
  refine ⟨rfl, swk_grown hW, ?_⟩
  have hS' : SWO (ltOf fun (x y : El d w0 g ok) => cf x.x y.x) := ⟨fun x => hS.irrefl x.x, fun x y z => hS.trans x.x y.x z.x, fun x y z => hS.ntrans x.x y.x z.x⟩
  obtain ⟨p1, p2⟩ := St.stable_spec hS' dE
  generalize hst : St.stable (ltOf fun (x y : El d w0 g ok) => cf x.x y.x) dE = dS at hW p1 p2
  have hss : dS.size = dE.size := p1.1
  have ext : ∀ q : Array (El d w0 g ok), q.extract 0 q.size = q := fun q => by simp
  have pp : dS.toList.Perm dE.toList := by
    have := p1.2.2
    rw [ext dE] at this
    rw [← hss, ext dS] at this
    exact this
  refine ⟨dS.toList.map El.x, ?_, ?_, ?_⟩
  · refine (pp.map El.x).trans (.of_eq ?_)
    apply List.ext_getElem
    · simp [hds]
    · intro i h1 h2
      simp only [List.getElem_map, Array.getElem_toList]
      exact (hdx i (by omega)).1
  · rw [List.pairwise_map]
    have := St.sortedIn_asc (a := 0) (b := dS.size) (Nat.le_refl _) (by rw [hss]; exact p2)
    rw [ext dS] at this
    exact this.imp fun h => of_decide_eq_false h
  · intro W hW'
    have hgS : W.heap[g]? = w'.heap[g]? := hW' g hg (Nat.lt_of_lt_of_le hgl (swk_grown hW).size)
    have hHS := hW.holds hgl hH hss
    refine ⟨by simp [hss, hds], by omega, fun _ => ⟨⟨g, 0, none⟩, rfl, ?_⟩⟩
    intro j p hj
    rw [List.getElem?_map, Option.map_eq_some_iff] at hj
    obtain ⟨el, hel', rfl⟩ := hj
    have hjl : j < dS.size := by have := (List.getElem?_eq_some_iff.1 hel').1; simpa using this
    have hej : dS[j] = el := by have := (List.getElem?_eq_some_iff.1 hel').2; simpa using this
    refine ⟨el.cs, el.len, ?_, ?_⟩
    · refine el.rd W (fun k hk hlt => ?_)
      rw [hW' k hk.1 (Nat.lt_of_lt_of_le hlt (swk_grown hW).size)]
      exact (swk_grown hW).block k hlt (fun e => hk.2 (by injection e))
    · intro i u hu
      have hi : i < d.sz := by rw [← el.len]; exact (List.getElem?_eq_some_iff.1 hu).1
      have hlt : j * d.sz + i < dS.size * d.sz := by
        have := Nat.mul_le_mul_right d.sz (show j + 1 ≤ dS.size from hjl)
        rw [Nat.add_mul, Nat.one_mul] at this
        omega
      have hc := (hHS (j * d.sz + i) (by rw [size_flatK]; exact hlt)).1
      have hdiv : (j * d.sz + i) / d.sz = j := by rw [Nat.mul_comm, Nat.mul_add_div hsz0, Nat.div_eq_of_lt hi, Nat.add_zero]
      have hmod : (j * d.sz + i) % d.sz = i := by rw [Nat.mul_comm, Nat.mul_add_mod, Nat.mod_eq_of_lt hi]
      rw [get_flatK _ _ _ _ hlt, hdiv, hmod, getElem!_pos dS j hjl, hej, getElem!_pos el.cs i (by rw [el.len]; exact hi)] at hc
      rw [add_plain]
      have e2 : W.cell? ⟨g, j * d.sz + i, none⟩ = w'.cell? ⟨g, j * d.sz + i, none⟩ := World.cell?_of_block (w := w') hgS
      rw [e2]
      rw [Nat.zero_add] at hc
      rw [hc]
      have := (List.getElem?_eq_some_iff.1 hu).2
      simp [this]

end Go.Proofs.Ytnlpdjklbjclpaa
