/- From a walk to a row. No condition. -/
import Derived.Test.YtbhdjaccdaccbaaGreatAmG17
import Derived.WalkKit
import Derived.ProofKit
import Derived.OpenShut
import Derived.WideKeyArgs
set_option linter.all false
set_option linter.unusedSimpArgs false
set_option linter.unusedVariables false
set_option linter.deprecated false
/-! Row1 -/
section
namespace Go.AM
/-- What a walk without handed-over objects leaves of the world. -/
def GrownLow (W w' : World) : Prop := W.keptBut w' (fun _ => False) ∧ (∀ a, a.block < W.heap.size → w'.frozen? a = W.frozen? a) ∧ W.heap.size ≤ w'.heap.size
theorem GrownLow.frame {W w' : World} (h : GrownLow W w') (may : MemPlace → Prop) : W.keptBut w' may := World.keptBut_mono (fun _ f => f.elim) h.1
theorem HR.grown {w0 w : World} {κ : Cfg} {h : Heap} {clk : Nat} (H : HR w0 (fun _ => False) w κ h clk) : GrownLow w0 w := by
  refine ⟨⟨H.os.1, H.output, fun i hi => ?_⟩, H.os.2, H.size⟩
  have e := H.old i hi (fun h => h)
  rw [e]
  split
  · rename_i c t fr c' t' fr' h1 h2
    rw [h1] at h2; cases h2
    exact ⟨rfl, rfl, rfl, fun _ _ => rfl⟩
  · rename_i h1 h2
    rw [h1] at h2; cases h2
    exact .inr ⟨rfl, rfl⟩
  · rfl
def κ0 : Cfg := { ι := fun _ => (0, 0), re := fun _ => False, F := fun _ _ _ _ => False, A := fun _ => True }
theorem HR.start (w : World) (hG : GlobOk w (fun _ => False) (fun _ => True)) : HR w (fun _ => False) w κ0 (objs []) 1 := by
  have no : ∀ (o : Rid) (ob : Ob), objs [] o = some ob → False := fun o ob ho => by
    obtain ⟨k, _, hk⟩ := cur_objs ho; simp at hk
  exact ⟨fun o ob ho => (no o ob ho).elim, fun o _ ob _ _ ho => (no o ob ho).elim, fun o ob _ ho => (no o ob ho).elim, ⟨rfl, fun _ _ => rfl⟩, rfl, rfl, Nat.le_refl _, fun _ _ _ => rfl, fun _ _ => trivial, hG⟩
/-- What a law's walk shows of the world. -/
theorem law_row {P : Program} {fid : Nat} {args : List AV} (h : Holds P fid args [] true (fun r o' => r = .b true ∧ o' = [])) (w : World) (hG : GlobOk w (fun _ => False) (fun _ => True)) (vs : Array Value) (hl : vs.size = args.length)
    (hv : ∀ (j : Nat) x, args[j]? = some x → VR w κ0 (objs []) 1 x (vs.getD j Go.undef)) :
    Calls P fid vs w fun e w' => e = .returned (.bool true) ∧ GrownLow w w' ∧ ∀ b, b < w.heap.size → w'.heap[b]? = w.heap[b]? := by
  refine (h.2 w κ0 vs (fun _ => False) (HR.start w hG) (fun b => ⟨fun hf => hf.elim, fun ⟨k, ob, hk, _⟩ => by simp at hk⟩) hl hv).mono fun e w' he => ?_
  cases e with
  | returned v =>
    obtain ⟨r, obs', κ', clk', ⟨hr1, hr2⟩, H', _, _, hr⟩ := he
    subst hr1; subst hr2
    refine ⟨?_, H'.grown, fun b hb => H'.old b hb (fun h => h)⟩
    cases hr with
    | ro _ _ hr => cases hr; rfl
  | panicked _ => exact he.elim
  | outgrown => exact he.elim
theorem sameAt_of {W W' : World} (ho : ∀ b, b < W.heap.size → W'.heap[b]? = W.heap[b]?) (p : MemPlace) (hp : p.block < W.heap.size) : W.sameAt W' p := by
  cases p with
  | cell b off => exact cell_same (ho b hp) off
  | map b => exact ho b hp
theorem X0 (w : World) (b : Nat) : κ0.X (objs []) w b ↔ b < w.heap.size := by
  refine ⟨fun h => h.1, fun h => ⟨h, trivial, fun o ob ho => ?_⟩⟩
  obtain ⟨k, _, hk⟩ := cur_objs ho; simp at hk
/-- What a call owes that leaves all as it was but for what is new (new memory may be frozen). -/
theorem post_low {H : Type} {enc : TypeId × Value → H} {P : Program} {f : Func} {s : ChangeSpec} {apart fresh handsOn again : Bool} {W W' : World} {args : Array Value} {v : Value} {ds gs : List (DataW H)} {before pa pv : List MemPlace}
    (hW : DataW.Whole enc P f.params.toList s.vars apart W args.toList ds gs before)
    (hres : ∀ (b : Nat) (sp : Nat → Bool) (hd : Bool), DataW.TrodAll enc P W' b sp hd f.resultTypes.toList (v.resultList f.resultTypes.size) (s.fn H (ds ++ gs)).results [])
    (hargs : ∀ sp : Nat → Bool, (∀ p ∈ before, sp p.block = true) → DataW.TrodAll enc P W' 0 sp true f.params.toList args.toList (s.fn H (ds ++ gs)).args pa)
    (hvars : ∀ sp : Nat → Bool, (∀ p ∈ before, sp p.block = true) → DataW.TrodVars enc P W' sp s.vars (s.fn H (ds ++ gs)).vars pv)
    (hps : before = pa ++ pv) (hk : W.keptBut W' (· ∈ before)) (hfz : ∀ a, a.block < W.heap.size → W'.frozen? a = W.frozen? a)
    (hok : ∀ (j : Nat) (t : TypeId) (r : Value), f.resultTypes[j]? = some t → (v.resultList f.resultTypes.size)[j]? = some r → Value.okWide P W' .any 0 t r) :
    s.post enc P f apart fresh handsOn again W args v W' := by
  have low : ∀ p ∈ before, p.block < W.heap.size := fun p hp => hW.lt p hp
  have old : ∀ p ∈ before, (fun b => decide (b < W.heap.size)) p.block = true := fun p hp => by simpa using low p hp
  refine ⟨ds, gs, before, [], pa, pv, hW, hres _ _ _, hargs _ old, hvars _ old, World.keptBut_mono (fun p hp => ⟨hp, ?_⟩) hk, fun _ => ?_⟩
  · rw [hps, List.mem_append] at hp; exact Or.inr hp
  obtain ⟨_, _, _, _, _, hz, hn⟩ := hW
  refine ⟨hok, _, _, ([] ++ pa) ++ pv, ⟨[] ++ pa, pv, ChangeShapes.trodAll_append (hargs _ (fun _ _ => rfl)) (hres _ _ _), hvars _ (fun _ _ => rfl), rfl, fun b off hp => ?_, fun ha => ?_⟩, fun p hp _ => ?_⟩
  · have hb : MemPlace.cell b off ∈ before := by rw [hps]; simpa using hp
    rw [hfz _ (low _ hb)]
    exact hz b off hb
  · have := hn ha; rw [hps] at this; simpa using this
  · rw [hps]; simpa using hp
end Go.AM
end
/-! Row2 -/
section
namespace Go.AM
section
variable {H : Type} {enc : TypeId × Value → H} {P : Program} {W : World} {base : Nat} {sp : Nat → Bool} {hd : Bool} {fuel : Nat} {t e : TypeId} {cs : List Value} {x : DataW H × List MemPlace}
theorem trod_str (ht : P.underlying t = some .string) (h : DataW.trod enc P W base sp hd fuel t cs = some x) : ∃ l : List UInt8, cs = [.string ⟨l.toArray⟩] ∧ l.length ≤ maxLen := by
  cases fuel with
  | zero => simp [DataW.trod] at h
  | succ n =>
    unfold DataW.trod at h
    rw [ht] at h
    split at h <;> simp_all
    rename_i s
    refine ⟨s.data.toList, ?_, ?_⟩
    · cases s; simp
    · exact h.1
theorem trod_i (k : IntKind) (ht : P.underlying t = some (.int k)) (h : DataW.trod enc P W base sp hd fuel t cs = some x) : ∃ n, cs = [.int k n] := by
  cases fuel with
  | zero => simp [DataW.trod] at h
  | succ n =>
    unfold DataW.trod at h
    rw [ht] at h
    split at h <;> simp_all
theorem add_add (a : Addr) (i j : Nat) : a.add (i + j) = (a.add i).add j := by
  unfold Addr.add
  by_cases h1 : i = 0 <;> by_cases h2 : j = 0 <;> simp [h1, h2, Nat.add_assoc]
end
end Go.AM
end
/-! Row3 -/
section
namespace Go.AM
theorem unmap2 {α : Type} {c : α → List AV} {Q : α → Prop} : ∀ (es : List (List AV)), (∀ r ∈ es, ∃ f, r = c f ∧ Q f) → ∃ l : List α, es = l.map c ∧ ∀ f ∈ l, Q f
  | [], _ => ⟨[], rfl, fun f hf => by cases hf⟩
  | r :: es, h => by
    obtain ⟨f, hf, hq⟩ := h r (by simp)
    obtain ⟨l, hl, hql⟩ := unmap2 es (fun q hq => h q (by simp [hq]))
    refine ⟨f :: l, by rw [hl, hf]; rfl, fun g hg => ?_⟩
    rcases List.mem_cons.1 hg with rfl | hg
    · exact hq
    · exact hql g hg
section
variable {H : Type} {enc : TypeId × Value → H} {P : Program} {W : World} {base : Nat} {sp : Nat → Bool} {hd : Bool} {fuel : Nat} {t e : TypeId} {cs : List Value} {x : DataW H × List MemPlace}
theorem read_rows2 {R : List AV → Prop} {n : Nat} {v : Value} (ht : P.underlying t = some (.slice e)) (hn : P.cellsOf e = n) (hpos : 0 < n)
    (he : ∀ m cs y, DataW.trod enc P W 0 sp hd m e cs = some y → ∃ r, R r ∧ r.length = n ∧ ∀ (j : Nat) x, r[j]? = some x → ∃ u, cs[j]? = some u ∧ Ro W (fun b => b < W.heap.size) x u)
    (h : DataW.trod enc P W 0 sp hd fuel t [v] = some x) : ∃ es, Ro W (fun b => b < W.heap.size) (.dat n es) v ∧ es.length ≤ maxLen ∧ ∀ r ∈ es, R r := by
  rcases DataW.trod_slice ht h with ⟨h1, _⟩ | ⟨a, len, cap, elems, rest, m, _, hv, _, _, hlc, hcm, hel, hcells, _, _⟩
  · simp only [List.cons.injEq, and_true] at h1; subst h1
    exact ⟨[], .dat0 _ _ _, by simp, fun r hr => by cases hr⟩
  simp only [List.cons.injEq, and_true] at hv; subst hv
  rw [hn] at hcells
  have one : ∀ i, i < len → ∃ r, R r ∧ r.length = n ∧ ∀ (j : Nat) x, r[j]? = some x → ∃ u, W.cell? (a.add (i * n + j)) = some u ∧ Ro W (fun b => b < W.heap.size) x u := by
    intro i hi
    have h1 := hcells i hi
    rw [List.getElem?_eq_getElem (by omega)] at h1
    obtain ⟨cs, hcs, hy⟩ := Option.bind_eq_some_iff.1 h1
    obtain ⟨_, hcl, hcc⟩ := World.cells?_some hcs
    obtain ⟨r, hr1, hr2, hr3⟩ := he m cs _ hy
    refine ⟨r, hr1, hr2, fun j x hx => ?_⟩
    obtain ⟨u, hu, hro⟩ := hr3 j x hx
    have hj : j < n := by rw [← hr2]; exact (List.getElem?_eq_some_iff.1 hx).1
    refine ⟨u, ?_, hro⟩
    have := hcc j hj
    rw [hu] at this
    rw [← this]
    congr 1
    rw [add_add]
  have many : ∀ k, k ≤ len → ∃ es : List (List AV), es.length = k ∧ ∀ (i : Nat) r, es[i]? = some r → R r ∧ r.length = n ∧ ∀ (j : Nat) x, r[j]? = some x → ∃ u, W.cell? (a.add (i * n + j)) = some u ∧ Ro W (fun b => b < W.heap.size) x u := by
    intro k
    induction k with
    | zero => exact fun _ => ⟨[], rfl, fun i r hr => by simp at hr⟩
    | succ k ih =>
      intro hk
      obtain ⟨es, h1, h2⟩ := ih (by omega)
      obtain ⟨r, hr⟩ := one k (by omega)
      refine ⟨es ++ [r], by simp [h1], fun i q hq => ?_⟩
      by_cases hi : i < es.length
      · rw [List.getElem?_append_left hi] at hq; exact h2 i q hq
      · rw [List.getElem?_append_right (by omega)] at hq
        have : i - es.length = 0 := by
          have := (List.getElem?_eq_some_iff.1 hq).1
          simp at this; omega
        rw [this] at hq
        simp only [List.getElem?_cons_zero, Option.some.injEq] at hq
        subst hq
        have e2 : i = k := by omega
        rw [e2]; exact hr
  obtain ⟨es, hl, hes⟩ := many len (Nat.le_refl _)
  refine ⟨es, ?_, by omega, fun r hr => ?_⟩
  · by_cases h0 : len = 0
    · subst h0
      have : es = [] := List.length_eq_zero_iff.1 hl
      subst this
      exact .dat0 _ _ _
    · have hgets : ∀ i j x, cellOf es i j = some x → ∃ u, W.cell? (a.add (i * n + j)) = some u ∧ Ro W (fun b => b < W.heap.size) x u := by
        intro i j x hx
        unfold cellOf at hx
        obtain ⟨r, hr, hx⟩ := Option.bind_eq_some_iff.1 hx
        exact (hes i r hr).2.2 j x hx
      obtain ⟨x0, hx0⟩ : ∃ x0, cellOf es 0 0 = some x0 := by
        have h1 : es[0]? = some es[0] := List.getElem?_eq_getElem (by omega)
        have h2 := (hes 0 _ h1).2.1
        exact ⟨es[0][0], by unfold cellOf; rw [h1]; simp⟩
      obtain ⟨u0, hu0, _⟩ := hgets 0 0 x0 hx0
      obtain ⟨ab, ao, spot⟩ := a
      have hspot : spot = none := by simpa [Addr.add] using World.cell?_spot hu0
      subst hspot
      have := Ro.dat (w := W) (X := fun b => b < W.heap.size) es ab ao cap n (fun i j => (W.cell? (at_ ab (ao + i * n + j))).getD Go.undef)
        (by have := World.block_lt_of_cell? W _ hu0; simpa [Addr.add] using this) (by omega) (fun r hr => by obtain ⟨i, hi⟩ := List.getElem?_of_mem hr; exact (hes i r hi).2.1)
        (fun i j x hx => by
          obtain ⟨u, hu, _⟩ := hgets i j x hx
          have e1 : (⟨ab, ao, none⟩ : Addr).add (i * n + j) = at_ ab (ao + i * n + j) := by simp [Addr.add, Nat.add_assoc]
          rw [e1] at hu
          rw [hu]; rfl)
        (fun i j x hx => by
          obtain ⟨u, hu, hro⟩ := hgets i j x hx
          have e1 : (⟨ab, ao, none⟩ : Addr).add (i * n + j) = at_ ab (ao + i * n + j) := by simp [Addr.add, Nat.add_assoc]
          rw [e1] at hu
          rw [hu]; exact hro)
      rw [hl] at this
      exact this
  · obtain ⟨i, hi⟩ := List.getElem?_of_mem hr
    exact (hes i r hi).1
end
end Go.AM
end
