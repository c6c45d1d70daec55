/- A library function that sorts numbers in place, as the machine's. No condition. -/
import Derived.Test.YtbhdjaccdaccbaaGreatAmG21
import Derived.Test.YtbhdjaccdaccbaaGreatAmG23
import Derived.Shelf.Sort.Plain
set_option linter.all false
set_option linter.unusedSimpArgs false
set_option linter.unusedVariables false
set_option linter.deprecated false
/-! SrA -/
section
open Go Go.AM
namespace FrA
variable {P : Program}
def obI (zs : List Int) (q : Prop) : Ob := { ver := 0, es := zs.map inC, esz := 1, own := q, fixed := true }
def srt (zs : List Int) : List Int := zs.mergeSort fun x y => decide (x ≤ y)
theorem srt_len (zs : List Int) : (srt zs).length = zs.length := List.length_mergeSort zs
theorem hup_one (a b : Ob) : hup (objs [a]) (.p 0) b = objs [b] := by
  funext u
  cases u with
  | p k =>
    cases k with
    | zero => simp [hup_at, objs]
    | succ k => simp [hup_at, objs]
  | l _ => simp [hup_at, objs]
  | r _ _ => simp [hup_at, objs]
theorem argOne {w : World} {κ : Cfg} {h : Heap} {clk : Nat} {a : AV} {vs : Array Value} (hl : vs.size = [a].length) (hv : ∀ (j : Nat) x, [a][j]? = some x → VR w κ h clk x (vs.getD j Go.undef)) : ∃ u, vs = #[u] ∧ VR w κ h clk a u := by
  obtain ⟨l⟩ := vs
  match l, hl with
  | [u], _ => exact ⟨u, rfl, hv 0 a rfl⟩
theorem in_cell {zs : List Int} {e j : Nat} {x : AV} (h : cellOf (zs.map inC) e j = some x) : j = 0 ∧ ∃ hlt : e < zs.length, x = i64 (zs[e]'hlt) := by
  unfold cellOf at h
  obtain ⟨c, h1, h2⟩ := Option.bind_eq_some_iff.1 h
  simp only [List.getElem?_map, Option.map_eq_some_iff] at h1
  obtain ⟨y, hy, rfl⟩ := h1
  have hj : j = 0 := by have := (List.getElem?_eq_some_iff.1 h2).1; simpa [inC] using this
  subst hj
  obtain ⟨hlt, he⟩ := List.getElem?_eq_some_iff.1 hy
  simp [inC] at h2; subst h2
  exact ⟨rfl, hlt, by rw [he]⟩
theorem sort_holds {fid : Nat} (he : ∀ vs w, (callFunc fid vs).run P w = .ok (.enter fid vs) w)
    (hc : ∀ (blk off cap : Nat) (zs : List Int) (w : World), Go.Sort.Holds (Value.int .i64) w blk off zs.toArray → blk < w.heap.size → zs.length < 4611686018427387904 →
      Calls P fid #[.slice (some ⟨blk, off, none⟩) zs.length cap] w fun e w' => e = .returned (.tuple #[]) ∧ ∃ n os, w' = Go.Sort.grow (Go.Sort.putRow (Value.int .i64) (Go.Sort.ahead w n) blk off (srt zs).toArray) os)
    (hn : ∀ (p : Option Addr) (cap : Nat) (w : World), Calls P fid #[.slice p 0 cap] w fun e w' => e = .returned (.tuple #[]) ∧ w' = w)
    (zs : List Int) (q : Prop) (cap : Option Nat) (hz : zs.length ≤ 4194304) :
    Go.AM.Holds P fid [.sl (.p 0) 0 0 zs.length cap] [obI zs q] true (fun r o => r = .tup [] ∧ o = [obI (srt zs) q]) := by
  refine ⟨he, fun w κ vs P0 H hP hl hv => ?_⟩
  obtain ⟨u, rfl, hu⟩ := argOne hl hv
  have ho : objs [obI zs q] (.p 0) = some (obI zs q) := rfl
  have hcur : cur (objs [obI zs q]) (.p 0) 0 = some (obI zs q) := by simp [cur, objs, obI]
  have R := H.ob _ _ ho
  rcases hu.of_sl hcur with ⟨h0, ⟨a, rfl⟩, _⟩ | ⟨rc, hre, rfl, hoff, hlr, hk1, hk2, hown⟩
  · have hz0 : zs = [] := List.length_eq_zero_iff.1 h0
    subst hz0
    refine (hn a 0 w).mono ?_
    rintro e w' ⟨rfl, rfl⟩
    exact ⟨.tup [], [obI [] q], κ, 1, ⟨rfl, by simp [srt]⟩, H, Ext.same rfl, fun k ob hk _ => by
      cases k with
      | zero => simp at hk; subst hk; rfl
      | succ k => simp at hk, .tup [] #[] rfl (fun j x hx => by simp at hx)⟩
  obtain ⟨blk, off, hι⟩ : ∃ blk off, κ.ι (.p 0) = (blk, off) := ⟨_, _, rfl⟩
  rw [hι] at hown
  simp only [obI, Nat.zero_add, Nat.mul_one] at hown
  have hA : κ.addr (.p 0) (obI zs q).esz 0 0 = ⟨blk, off, none⟩ := by simp [Cfg.addr, hι, obI]
  rw [hA]
  have hcl : ∀ j (hj : j < zs.length), w.cell? ⟨blk, off + j, none⟩ = some (.int .i64 zs[j]) := fun j hj => by
    obtain ⟨v, h1, h2⟩ := R.cells j 0 (i64 zs[j]) (by simp [obI, cellOf, inC, List.getElem?_eq_getElem hj])
    rw [show κ.addr (.p 0) (obI zs q).esz j 0 = ⟨blk, off + j, none⟩ by simp [Cfg.addr, hι, obI]] at h1
    rw [h1]
    exact congrArg some (VR.of_i h2)
  obtain ⟨c0, t0, f0, hb, hcs, hfr⟩ := id hown
  have hH : Go.Sort.Holds (Value.int .i64) w blk off zs.toArray := fun j hj => by
    have hj' : j < zs.length := by simpa using hj
    refine ⟨?_, hfr _⟩
    rw [hcl j hj']; simp [hj']
  have hblt := (Array.getElem?_eq_some_iff.1 hb).1
  refine (hc blk off rc zs w hH hblt (by omega)).mono ?_
  rintro e w' ⟨rfl, n, os, rfl⟩
  have hsz : (srt zs).toArray.size = zs.toArray.size := by simp [srt_len]
  obtain ⟨w1, hw1⟩ : ∃ w1, w1 = Go.Sort.putRow (Value.int .i64) (Go.Sort.ahead w n) blk off (srt zs).toArray := ⟨_, rfl⟩
  rw [← hw1]
  have hs1 : w1.heap.size = w.heap.size := by rw [hw1]; simp
  have hf1 : ∀ a, w1.frozen? a = w.frozen? a := fun a => by rw [hw1]; simp
  have hcl1 : ∀ j (hj : j < (srt zs).length), w1.cell? ⟨blk, off + j, none⟩ = some (.int .i64 (srt zs)[j]) := fun j hj => by
    rw [hw1, Go.Sort.cell?_putRow (Value.int .i64) (Go.Sort.ahead w n) blk off zs.toArray (srt zs).toArray hH hsz j (by simpa using hj)]
    simp [hj]
  have hbl1 : ∃ c1, w1.heap[blk]? = some (.cells c1 t0 f0) ∧ c1.size = c0.size := by
    refine ⟨Go.Sort.putCells (Value.int .i64) off (srt zs).toArray c0, ?_, by simp [Go.Sort.putCells]⟩
    rw [hw1]
    simp [Go.Sort.putRow, Go.Sort.mapBlock, Array.getElem?_modify, hb, Go.Sort.onCells]
  have hob : ∀ m, OwnBlk w blk m → OwnBlk w1 blk m := fun m ⟨c, t, f, h1, h2, h3⟩ => by
    rw [hb] at h1; cases h1
    obtain ⟨c1, h4, h5⟩ := hbl1
    exact ⟨c1, t0, f0, h4, by omega, fun o => by rw [hf1]; exact h3 o⟩
  obtain ⟨κ', k1, k2, E, K⟩ := H.write (w' := w1) (clk' := 1) (es' := (srt zs).map inC) (own' := q) (ver' := 0) (blk := blk) (off := off) ho (Nat.le_refl _) (by omega)
    (.inr ⟨rfl, by simp [obI, srt_len], hι.symm⟩) (fun e he => by obtain ⟨y, _, rfl⟩ := List.mem_map.1 he; rfl)
    (fun b hb2 => by rw [hw1]; simp [Go.Sort.putRow, Go.Sort.mapBlock, Array.getElem?_modify, Ne.symm hb2]) (by omega)
    ⟨by rw [hw1]; rfl, hf1⟩ (by rw [hw1]; rfl) (by rw [hw1]; rfl) (.inr ⟨hre, by rw [hι]⟩) hob
    (fun _ => by
      simp only [List.length_map, srt_len, obI, Nat.mul_one]
      exact (hob _ hown).mono (by omega)) (fun h => h)
    (fun e j x hx => by
      obtain ⟨rfl, hlt, rfl⟩ := in_cell hx
      refine .inr ⟨.int .i64 (srt zs)[e], ?_, .ro _ _ (.i _ _), .inl rfl, fun _ => rfl⟩
      have h9 := hcl1 e hlt
      show w1.cell? ⟨blk, off + e * 1 + 0, none⟩ = _
      rw [Nat.mul_one, Nat.add_zero]; exact h9)
  have hgo : hup (objs [obI zs q]) (.p 0) { obI zs q with ver := 0, es := (srt zs).map inC, own := q } = objs [obI (srt zs) q] := hup_one _ _
  rw [hgo] at E K
  have B : RowKit.Below w1.heap.size w1 (Go.Sort.grow w1 os) := ⟨rfl, rfl, rfl, by simp, fun b hb => Go.Sort.heap_grow_old w1 os hb⟩
  obtain ⟨K2, E2⟩ := K.below B
  exact ⟨.tup [], [obI (srt zs) q], κ', 1, ⟨rfl, rfl⟩, K2, E.trans E2, fun k ob hk _ => by
    cases k with
    | zero => simp at hk; subst hk; rfl
    | succ k => simp at hk, .tup [] #[] rfl (fun j x hx => by simp at hx)⟩
end FrA
end
