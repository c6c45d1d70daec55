/- Every operation without an effect: the whole. No condition. -/
import Derived.Test.YtbhdjaccdaccbaaGreatAmG07
import Derived.Laws.BytesString
set_option linter.all false
set_option linter.unusedSimpArgs false
set_option linter.unusedVariables false
set_option linter.deprecated false
/-! Op10 -/
section
namespace Go.AM
variable {w : World} {κ : Cfg} {h : Heap} {clk : Nat} {P : Program}

theorem mm_run {ρ : Operand → Value} {g : Slots} {isMax : Bool} (hg : ∀ x, VR w κ h clk (ev g (cv x)) (ρ x)) : ∀ (r : List Operand) (x : AV) (vx : Value) (v : AV), VR w κ h clk x vx → (r.map (fun y => ev g (cv y))).foldlM (mm2 isMax) x = some v →
    ∃ u, ((r.map ρ).foldlM (if isMax then Builtin.max2 else Builtin.min2) vx).run P w = .ok u w ∧ VR w κ h clk v u
  | [], x, vx, v, hx, hf => by
    simp at hf; subst hf
    exact ⟨vx, rfl, hx⟩
  | y :: r, x, vx, v, hx, hf => by
    simp only [List.map_cons, List.foldlM_cons] at hf
    cases h1 : mm2 isMax x (ev g (cv y)) with
    | none => rw [h1] at hf; cases hf
    | some z =>
      rw [h1] at hf
      simp only [Option.bind_eq_bind, Option.bind_some] at hf
      have hy := hg y
      unfold mm2 at h1
      split at h1
      · rename_i k a k' b hb
        split at h1
        · rename_i hk; subst hk
          rw [hb] at hy
          have e1 := hx.of_i; have e2 := hy.of_i; subst e1
          have hz : ∃ u, ((if isMax then Builtin.max2 else Builtin.min2) (.int k a) (ρ y)).run P w = .ok u w ∧ VR w κ h clk z u := by
            cases h1
            rw [e2]
            refine ⟨_, ?_, .mk_i _ _⟩
            cases isMax
            · simp only [Bool.false_eq_true, if_false, Builtin.min2, Sem.run_pure]
              congr 2; split <;> omega
            · simp only [if_true, Builtin.max2, Sem.run_pure]
              congr 2; split <;> omega
          obtain ⟨u, hu, hzu⟩ := hz
          obtain ⟨u', hu', hv⟩ := mm_run hg r z u v hzu hf
          refine ⟨u', ?_, hv⟩
          simp only [List.map_cons, List.foldlM_cons, Sem.run_bind, hu, Result.andThen, hu']
        · cases h1
      · cases h1

theorem foldl_push (ns : List Int) : ∀ (s : List UInt8), ns.foldl (fun (r : ByteArray) n => r.push (UInt8.ofNat n.toNat)) ⟨s.toArray⟩ = ⟨(s ++ ns.map fun n => UInt8.ofNat n.toNat).toArray⟩ := by
  induction ns with
  | nil => intro s; simp
  | cons n ns ih =>
    intro s
    have : (⟨s.toArray⟩ : ByteArray).push (UInt8.ofNat n.toNat) = ⟨(s ++ [UInt8.ofNat n.toNat]).toArray⟩ := by
      apply ByteArray.ext; simp [ByteArray.push]
    rw [List.foldl_cons, this, ih]
    simp
theorem bytesOf_some : ∀ {es : List (List AV)} {l : List UInt8}, bytesOf es = some l → ∃ ns : List Int, es = ns.map (fun n => [AV.i .u8 n]) ∧ l = ns.map fun n => UInt8.ofNat n.toNat
  | [], l, hl => by simp [bytesOf] at hl; subst hl; exact ⟨[], rfl, rfl⟩
  | e :: r, l, hl => by
    unfold bytesOf at hl
    split at hl
    · rename_i he; cases he
    · rename_i n r' he
      cases he
      cases hr : bytesOf r with
      | none => rw [hr] at hl; cases hl
      | some l' =>
        rw [hr] at hl; simp at hl; subst hl
        obtain ⟨ns, h1, h2⟩ := bytesOf_some hr
        exact ⟨n :: ns, by simp [h1], by simp [h2]⟩
    · cases hl
theorem b2s_run {b : Nat} {o len cap : Nat} {ns : List Int} (hl : ns.length = len) (hc : ∀ (j : Nat) n, ns[j]? = some n → w.cell? (at_ b (o + j)) = some (.int .u8 n)) :
    (Conv.bytesToString (.slice (some (at_ b o)) len cap)).run P w = .ok (.string ⟨(ns.map fun n => UInt8.ofNat n.toNat).toArray⟩) w := by
  rw [run_bytesToString w (at_ b o) len cap ns]
  · congr 2
    exact (foldl_push ns []).trans (by simp)
  · subst hl
    have := run_loadCells_list (P := P) w (at_ b o) (ns.map (Value.int .u8)) (fun j v hv => by
      rw [addr_add]
      simp only [List.getElem?_map, Option.map_eq_some_iff] at hv
      obtain ⟨n, h1, rfl⟩ := hv
      exact hc j n h1)
    simpa using this
theorem b2s_ok {s d e : TypeId} {x : AV} {vx : Value} {p : Prop} {v : AV} (hO : ∀ o ob, h o = some ob → ObR w κ h clk o ob) (hs : P.underlying s = some (.slice e)) (he : P.underlying e = some (.int .u8)) (hd : P.underlying d = some .string) (hx : VR w κ h clk x vx) (hk : convF h .b2s x = some (p, v)) (hp : p) :
    Gives P (Go.convert s d vx) w κ h clk v := by
  have red : ∀ a l c, (Go.convert s d (.slice a l c)).run P w = (Conv.bytesToString (.slice a l c)).run P w := by
    intro a l c
    simp [Go.convert, und_run hs, und_run hd, und_run he, Result.andThen]
  unfold convF at hk
  split at hk
  · contradiction
  · contradiction
  · simp only [yes, Option.some.injEq, Prod.mk.injEq] at hk; obtain ⟨_, rfl⟩ := hk
    have e1 := hx.of_nils; subst e1
    refine ⟨.string ⟨#[]⟩, ?_, .mk_s []⟩
    rw [red]; rfl
  · rename_i es _
    cases hb : bytesOf es with
    | none => rw [hb] at hk; cases hk
    | some l =>
      rw [hb] at hk
      simp only [Option.bind_some, yes, Option.some.injEq, Prod.mk.injEq] at hk; obtain ⟨_, rfl⟩ := hk
      obtain ⟨ns, rfl, rfl⟩ := bytesOf_some hb
      obtain ⟨z, hr⟩ : ∃ z, Ro w (κ.X h w) (.dat z (ns.map fun n => [AV.i .u8 n])) _ := ⟨_, hx.of_dat⟩
      generalize hes : (ns.map fun n => [AV.i .u8 n]) = es at hr
      cases hr with
      | dat0 _ a cap =>
        have : ns = [] := by simpa using hes
        subst this
        refine ⟨.string ⟨#[]⟩, ?_, .mk_s []⟩
        rw [red]
        cases a with
        | none => rfl
        | some a => exact (run_bytesToString w a 0 cap [] (by simp [loadCells, loadCellsFrom])).trans (by rfl)
      | dat _ blk off cap _ val hX hl hz hc hr =>
        subst hes
        refine ⟨_, ?_, .mk_s _⟩
        rw [red]
        refine b2s_run (by simp) fun j n hj => ?_
        have hj' : cellOf (ns.map fun n => [AV.i .u8 n]) j 0 = some (.i .u8 n) := by simp [cellOf, hj]
        have ez : z = 1 := by
          have := hz [AV.i .u8 n] (by rw [List.mem_map]; exact ⟨n, List.mem_of_getElem? hj, rfl⟩)
          simpa using this.symm
        have h1 := hc j 0 _ hj'
        have h2 := hr j 0 _ hj'
        subst ez
        rw [Nat.mul_one, Nat.add_zero] at h1
        have h3 : val j 0 = .int .u8 n := by
          generalize val j 0 = q at h2; cases h2; rfl
        rw [h1, h3]
  · rename_i o ver off len cap _
    cases hc : cur h o ver with
    | none => rw [hc] at hk; cases hk
    | some ob =>
      rw [hc] at hk
      simp only [Option.bind_some] at hk
      cases hb : bytesOf (sub ob.es off len) with
      | none => rw [hb] at hk; cases hk
      | some l =>
        rw [hb] at hk
        simp only [Option.bind_some, Option.some.injEq, Prod.mk.injEq] at hk; obtain ⟨rfl, rfl⟩ := hk
        obtain ⟨ns, h1, rfl⟩ := bytesOf_some hb
        rcases hx.of_sl hc with ⟨rfl, ⟨a, rfl⟩, hcap⟩ | ⟨rc, _, rfl, hoff, _⟩
        · have hns : ns = [] := by
            by_cases ho : off ≤ ob.es.length
            · rw [sub_zero ho] at h1; simpa using h1.symm
            · have : sub ob.es off 0 = [] := by
                unfold sub; rw [if_neg (by omega)]; simp
              rw [this] at h1; simpa using h1.symm
          subst hns
          refine ⟨.string ⟨#[]⟩, ?_, .mk_s []⟩
          rw [red]
          cases a with
          | none => rfl
          | some a => exact (run_bytesToString w a 0 0 [] (by simp [loadCells, loadCellsFrom])).trans (by rfl)
        · have hlen : ns.length = len := by
            have := congrArg List.length h1
            rw [sub_length hoff] at this; simpa using this.symm
          refine ⟨_, ?_, .mk_s _⟩
          rw [red]
          refine b2s_run hlen fun j n hj => ?_
          have hj' : cellOf (sub ob.es off len) j 0 = some (.i .u8 n) := by rw [h1]; simp [cellOf, hj]
          obtain ⟨hj1, hj2⟩ := sub_cell hoff hj'
          obtain ⟨u, h3, h4⟩ := (hO o ob (cur_some hc).1).cells _ _ _ hj2
          rw [Cfg.addr, hp] at h3
          rw [hp, Nat.mul_one, show (κ.ι o).2 + off + 0 + j = (κ.ι o).2 + (off + j) * 1 + 0 by omega, h3]
          have := (show VR w κ h clk (.i .u8 n) u from h4).of_i
          rw [this]
  · cases hk

theorem conv_int_inv {k : IntKind} {x : AV} {p : Prop} {v : AV} (hk : convF h (.int k) x = some (p, v)) : ∃ k0 n, x = .i k0 n ∧ v = .i k (k.wrap n) := by
  cases x <;> first | (cases hk; done) | (rename_i k0 n; cases hk; exact ⟨k0, n, rfl, rfl⟩)
theorem conv_str_inv {x : AV} {p : Prop} {v : AV} (hk : convF h .str x = some (p, v)) : ∃ l, x = .s l ∧ v = .s l := by
  cases x <;> first | (cases hk; done) | (rename_i l; cases hk; exact ⟨l, rfl, rfl⟩)
theorem kv_ok {a : Act} {g : Slots} {o : Oper} {p : Prop} {v : AV} (hG : GlobHere w κ h clk) (hO : ∀ o ob, h o = some ob → ObR w κ h clk o ob) (hg : ∀ t, VR w κ h clk (g t) (a.tmps.getD t Go.undef))
    (hk : kv h g (co P o.op) = some (p, v)) (hp : p) : ∃ u, (execOp a.eval o).run P w = .ok (.value u) w ∧ VR w κ h clk v u := by
  have hev : ∀ x, VR w κ h clk (ev g (cv x)) (a.eval x) := ev_ok hG hg
  have val : ∀ {s : Sem Value}, Gives P s w κ h clk v → ∀ {t : Sem Next}, t = (do pure (.value (← s))) → ∃ u, t.run P w = .ok (.value u) w ∧ VR w κ h clk v u := by
    rintro s ⟨u, h1, h2⟩ t rfl
    exact ⟨u, by simp only [Sem.run_bind, h1, Result.andThen, Sem.run_pure], h2⟩
  obtain ⟨dst, op, ty, pos, af, gd⟩ := o
  simp only at hk
  unfold co at hk
  cases op with
  | move x => simp only [kv, yes, Option.some.injEq, Prod.mk.injEq] at hk; obtain ⟨_, rfl⟩ := hk; exact ⟨a.eval x, rfl, hev x⟩
  | assign x => simp only [kv, yes, Option.some.injEq, Prod.mk.injEq] at hk; obtain ⟨_, rfl⟩ := hk; exact ⟨a.eval x, rfl, hev x⟩
  | pick c x y =>
    obtain ⟨u, h1, h2⟩ := pick_ok (P := P) (hev c) (hev x) (hev y) hk
    refine ⟨u, ?_, h2⟩
    simp only [execOp, Sem.run_bind] at h1 ⊢
    generalize (asBool (a.eval c)).run P w = r at h1
    cases r with
    | ok b w' => simp only [Result.andThen, Sem.run_pure, Result.ok.injEq] at h1 ⊢; exact ⟨by rw [h1.1], h1.2⟩
    | halt _ _ => simp [Result.andThen] at h1
  | build t ps =>
    simp only at hk
    split at hk
    · rename_i fs hu
      split at hk
      · rename_i hc
        simp only [Bool.and_eq_true] at hc
        obtain ⟨⟨hz, hf⟩, hps⟩ := hc
        refine val (build_ok hu hz (fun f hf' => ?_) hev (fun i x hx => ?_) hk) rfl
        · have := Array.all_eq_true'.1 hf f (by simpa using hf')
          simpa using this
        · have := Array.all_eq_true'.1 hps (i, x) (by simpa using hx)
          simpa using this
      · cases hk
    · cases hk
  | load t x =>
    simp only at hk
    split at hk
    · rename_i hc
      simp only [Bool.and_eq_true, Bool.or_eq_true, beq_iff_eq] at hc
      exact val (load_ok hO hc.1.1 hc.1.2 rfl rfl (fun hh => by rcases hc.2 with h5 | h5 <;> simp_all) (hev x) hk hp) rfl
    · cases hk
  | nilCheck x => exact nilck_ok (hev x) hk _ _ _ _ _
  | binOp op t x y ty' =>
    simp only at hk
    have plain : kv h g (.bin op (cv x) (cv y)) = some (p, v) → ∃ u, (execOp a.eval ⟨dst, .binOp op t x y ty', ty, pos, af, gd⟩).run P w = .ok (.value u) w ∧ VR w κ h clk v u :=
      fun hk => val (bin_ok (op := op) (t := t) (x := x) (y := y) (ty := t) (hev x) (hev y) hk hp) rfl
    have eqs : ∀ neg : Bool, op = (if neg then .neq else .eql) → kv h g (ceq P neg t (cv x) (cv y)) = some (p, v) → ∃ u, (execOp a.eval ⟨dst, .binOp op t x y ty', ty, pos, af, gd⟩).run P w = .ok (.value u) w ∧ VR w κ h clk v u := by
      intro neg hop hk
      unfold ceq at hk
      have done : ∀ et, EqFit P t et → kv h g (.eqt et neg (cv x) (cv y)) = some (p, v) → ∃ u, (execOp a.eval ⟨dst, .binOp op t x y ty', ty, pos, af, gd⟩).run P w = .ok (.value u) w ∧ VR w κ h clk v u := by
        intro et hf hk2
        subst hop
        exact val (eqt_ok hf (hev x) (hev y) hk2 hp) rfl
      split at hk
      · exact plain (by rw [hop]; exact hk)
      · exact plain (by rw [hop]; exact hk)
      · rename_i hu; exact done .bool hu hk
      · rename_i e hu; exact done .ptr ⟨e, hu⟩ hk
      · rename_i e hu; exact done .slice ⟨e, hu⟩ hk
      · rename_i b c d hu; exact done .func ⟨b, c, d, hu⟩ hk
      · rename_i fs hu
        split at hk
        · rename_i ks hks
          split at hk
          · cases hk
          · rename_i hge; exact done (.struct ks) ⟨⟨fs, hu⟩, hks, by simpa using hge⟩ hk
        · cases hk
      · cases hk
    split at hk
    · exact eqs false rfl hk
    · exact eqs true rfl hk
    · exact plain hk
  | unOp op t x => exact val (un_ok (hev x) hk) rfl
  | convert s d x =>
    simp only at hk
    split at hk
    · cases hk
    · rename_i hs
      obtain ⟨ds, hds⟩ : ∃ ds, P.underlying s = some ds := by
        cases hq : P.underlying s with
        | none => simp [hq] at hs
        | some ds => exact ⟨ds, rfl⟩
      have e1 := hev x
      split at hk
      · rename_i k hd
        obtain ⟨k0, n, hx, rfl⟩ := conv_int_inv hk
        rw [hx] at e1; have e2 := e1.of_i
        refine val (s := Go.convert s d (a.eval x)) ?_ rfl
        rw [e2]
        exact conv_int_ok hds (isIntT_eq hd)
      · rename_i hd1 hd2 hd3
        obtain ⟨l, hx, rfl⟩ := conv_str_inv hk
        rw [hx] at e1; have e2 := e1.of_s
        refine val (s := Go.convert s d (a.eval x)) ?_ rfl
        rw [e2]
        exact conv_str_ok (isStrT_eq hd3) (isStrT_eq hd2)
      · rename_i hd1 hd2 hd3
        split at hk
        · rename_i hb
          cases he : elemT P s with
          | none => rw [he] at hb; cases hb
          | some e =>
            rw [he] at hb
            exact val (s := Go.convert s d (a.eval x)) (b2s_ok hO (elemT_eq he).1 (isIntT_eq hb) (isStrT_eq hd2) e1 hk hp) rfl
        · cases hk
      · split at hk
        · exfalso
          have : ∀ y, convF h .s2b y = none := by intro y; cases y <;> rfl
          have h5 : convF h .s2b (ev g (cv x)) = some (p, v) := hk
          rw [this] at h5; cases h5
        · cases hk
      · cases hk
  | slice t x lo hi mx =>
    simp only at hk
    split at hk
    · cases hk
    · rename_i hm
      split at hk
      · rename_i hs
        split at hk
        · cases hk
        · rename_i hmx
          have : mx = none := by cases mx <;> simp_all
          subst this
          exact val (s := Instr.sliceAt t (a.eval x) (lo.map a.eval) (hi.map a.eval) none) (sls_ok (isStrT_eq hs) hev hk hp) rfl
      · split at hk
        · rename_i e he
          obtain ⟨h1, h2⟩ := elemT_eq he
          exact val (s := Instr.sliceAt t (a.eval x) (lo.map a.eval) (hi.map a.eval) (mx.map a.eval)) (slc_ok h1 h2 rfl (fun hh => by cases hi <;> simp_all) hev hk hp) rfl
        · split at hk
          · cases hk
          · rename_i hmx
            have : mx = none := by cases mx <;> simp_all
            subst this
            split at hk
            · rename_i n e he
              obtain ⟨h1, h2⟩ := arrT_eq he
              exact val (s := Instr.sliceAt t (a.eval x) (lo.map a.eval) (hi.map a.eval) none) (slca_ok hO h1 h2 rfl hev hk hp) rfl
            · cases hk
  | fieldAddr t x f =>
    simp only at hk
    split at hk
    · rename_i fd hf
      split at hk
      · cases hk
      · rename_i hc
        simp only [Bool.or_eq_true, not_or, beq_iff_eq, Bool.not_eq_true] at hc
        exact val (fld_ok hf (by simpa using hc.1) (by simpa using hc.2) rfl (hev x) hk) rfl
    · cases hk
  | field t x f =>
    simp only at hk
    split at hk
    · rename_i fd hf
      split at hk
      · rename_i hc
        simp only [Bool.and_eq_true] at hc
        exact val (fldv_ok hf hc.1.1 hc.1.2 rfl rfl rfl (hev x) hk hp) rfl
      · cases hk
    · cases hk
  | indexAddr t x i =>
    simp only at hk
    split at hk
    · rename_i e he
      obtain ⟨h1, h2⟩ := elemT_eq he
      exact val (idx_ok h1 h2 rfl (hev x) (hev i) hk hp) rfl
    · split at hk
      · rename_i n e he
        obtain ⟨h1, h2⟩ := arrT_eq he
        exact val (idxa_ok h1 h2 rfl (hev x) (hev i) hk hp) rfl
      · cases hk
  | index t x i =>
    simp only at hk
    split at hk
    · rename_i hs
      exact val (ids_ok (isStrT_eq hs) (hev x) (hev i) hk hp) rfl
    · cases hk
  | extract x i => exact val (ext_ok (hev x) hk) rfl
  | makeFunc fn first capt =>
    cases fn with
    | func f =>
      simp only at hk
      split at hk
      · rename_i hf
        have hf' : first = #[] := Array.eq_empty_of_size_eq_zero hf
        subst hf'
        simp only [kv, yes, Option.some.injEq, Prod.mk.injEq] at hk; obtain ⟨_, rfl⟩ := hk
        refine ⟨.func (.func f) #[] (capt.map a.eval), by simp [execOp, Instr.makeFunc], .fn f _ _ (by simp) fun j x hx => ?_⟩
        simp only [List.getElem?_map, Option.map_eq_some_iff] at hx
        obtain ⟨y, ⟨z, hz, rfl⟩, rfl⟩ := hx
        have : (capt.map a.eval).getD j Go.undef = a.eval z := by
          have : capt[j]? = some z := by simpa using hz
          simp [Array.getD_eq_getD_getElem?, this]
        rw [this]; exact hev z
      · cases hk
    | _ => simp only at hk; cases hk
  | call c =>
    simp only at hk
    unfold ccall at hk
    split at hk
    · cases hk
    · rename_i b hb
      obtain ⟨cal, args, ats⟩ := c
      simp only at hb hk
      subst hb
      have red := BigFrame.execOp_builtin a.eval dst b args ats ty pos af gd
      split at hk
      · rename_i x' t hx1 hx2
        obtain ⟨x, hx3⟩ : ∃ x, args = #[x] ∧ cv x = x' := by
          have hl := congrArg List.length hx1
          simp at hl
          have : args = #[args[0]] := by
            apply Array.ext <;> simp [hl]
            intro i h1
            have : i = 0 := by omega
            subst this; rfl
          refine ⟨args[0], this, ?_⟩
          rw [this] at hx1; simpa using hx1
        obtain ⟨rfl, rfl⟩ := hx3
        have hat : ats[0]? = some t := by
          have : ats.toList[0]? = some t := by rw [hx2]; rfl
          simpa using this
        split at hk
        · rename_i hs
          obtain ⟨u, h1, h2⟩ := len_ok (P := P) (str := true) (ty := ty) hat (fun _ => isStrT_eq hs) (fun hh => by cases hh) (hev x) (show lenF h true (ev g (cv x)) = some (p, v) from hk)
          exact ⟨u, by rw [red, BigFrame.builtin_len]; simp [h1, Result.andThen], h2⟩
        · split at hk
          · rename_i e he
            obtain ⟨u, h1, h2⟩ := len_ok (P := P) (str := false) (ty := ty) hat (fun hh => by cases hh) (fun _ => ⟨e, (elemT_eq he).1⟩) (hev x) (show lenF h false (ev g (cv x)) = some (p, v) from hk)
            exact ⟨u, by rw [red, BigFrame.builtin_len]; simp [h1, Result.andThen], h2⟩
          · cases hk
      · rename_i x' t hx1 hx2
        obtain ⟨x, hx3⟩ : ∃ x, args = #[x] ∧ cv x = x' := by
          have hl := congrArg List.length hx1
          simp at hl
          have : args = #[args[0]] := by
            apply Array.ext <;> simp [hl]
            intro i h1
            have : i = 0 := by omega
            subst this; rfl
          refine ⟨args[0], this, ?_⟩
          rw [this] at hx1; simpa using hx1
        obtain ⟨rfl, rfl⟩ := hx3
        have hat : ats[0]? = some t := by
          have : ats.toList[0]? = some t := by rw [hx2]; rfl
          simpa using this
        split at hk
        · rename_i e he
          obtain ⟨u, h1, h2⟩ := cap_ok (P := P) (ty := ty) hat ⟨e, (elemT_eq he).1⟩ (hev x) (show capF h (ev g (cv x)) = some (p, v) from hk) hp
          exact ⟨u, by rw [red, BigFrame.builtin_cap]; simp [h1, Result.andThen], h2⟩
        · cases hk
      · split at hk <;> first | cases hk | (split at hk <;> first | cases hk | (split at hk <;> cases hk))
      · split at hk <;> first | cases hk | (split at hk <;> cases hk)
      · split at hk <;> first | cases hk | (split at hk <;> cases hk)
      · obtain ⟨u, h1, h2⟩ : ∃ u, (Builtin.min_ ats ty (args.map a.eval)).run P w = .ok u w ∧ VR w κ h clk v u := by
          simp only [kv] at hk
          rw [List.map_map] at hk
          unfold Builtin.min_
          rw [Array.toList_map]
          cases hl : args.toList with
          | nil => rw [hl] at hk; simp [mmF] at hk
          | cons x r =>
            rw [hl] at hk
            simp only [List.map_cons, mmF] at hk
            cases hf : (r.map (fun y => ev g (cv y))).foldlM (mm2 false) (ev g (cv x)) with
            | none =>
              have hk2 : ((r.map (fun y => ev g (cv y))).foldlM (mm2 false) (ev g (cv x))).bind yes = some (p, v) := hk
              rw [hf] at hk2; cases hk2
            | some z =>
              have hk2 : ((r.map (fun y => ev g (cv y))).foldlM (mm2 false) (ev g (cv x))).bind yes = some (p, v) := hk
              rw [hf] at hk2
              simp only [Option.bind_some, yes, Option.some.injEq, Prod.mk.injEq] at hk2; obtain ⟨_, rfl⟩ := hk2
              obtain ⟨u, h1, h2⟩ := mm_run (P := P) (isMax := false) hev r _ _ _ (hev x) hf
              exact ⟨u, by simpa using h1, h2⟩
        exact ⟨u, by rw [red, BigFrame.builtin_min]; simp [h1, Result.andThen], h2⟩
      · obtain ⟨u, h1, h2⟩ : ∃ u, (Builtin.max_ ats ty (args.map a.eval)).run P w = .ok u w ∧ VR w κ h clk v u := by
          simp only [kv] at hk
          rw [List.map_map] at hk
          unfold Builtin.max_
          rw [Array.toList_map]
          cases hl : args.toList with
          | nil => rw [hl] at hk; simp [mmF] at hk
          | cons x r =>
            rw [hl] at hk
            simp only [List.map_cons, mmF] at hk
            cases hf : (r.map (fun y => ev g (cv y))).foldlM (mm2 true) (ev g (cv x)) with
            | none =>
              have hk2 : ((r.map (fun y => ev g (cv y))).foldlM (mm2 true) (ev g (cv x))).bind yes = some (p, v) := hk
              rw [hf] at hk2; cases hk2
            | some z =>
              have hk2 : ((r.map (fun y => ev g (cv y))).foldlM (mm2 true) (ev g (cv x))).bind yes = some (p, v) := hk
              rw [hf] at hk2
              simp only [Option.bind_some, yes, Option.some.injEq, Prod.mk.injEq] at hk2; obtain ⟨_, rfl⟩ := hk2
              obtain ⟨u, h1, h2⟩ := mm_run (P := P) (isMax := true) hev r _ _ _ (hev x) hf
              exact ⟨u, by simpa using h1, h2⟩
        exact ⟨u, by rw [red, BigFrame.builtin_max]; simp [h1, Result.andThen], h2⟩
      · cases hk
    · cases hk
  | _ => first | (simp only at hk; cases hk) | (simp only at hk; split at hk <;> cases hk) | (simp only at hk; split at hk <;> first | cases hk | (split at hk <;> cases hk))
end Go.AM
end
/-! Eff1 -/
section
namespace Go.AM

structure Ext (w : World) (κ : Cfg) (h : Heap) (clk : Nat) (w' : World) (κ' : Cfg) (h' : Heap) (clk' : Nat) : Prop where
  hclk : clk ≤ clk'
  hcur : ∀ o v ob', v < clk → cur h' o v = some ob' → ∃ ob, cur h o v = some ob ∧ κ'.ι o = κ.ι o ∧ ob'.esz = ob.esz ∧ ob'.es.length = ob.es.length ∧ (κ.re o → κ'.re o) ∧
    (κ.re o → ∀ n, OwnBlk w (κ.ι o).1 n → OwnBlk w' (κ.ι o).1 n)
  hX : ∀ b, κ.X h w b → κ'.X h' w' b ∧ w'.heap[b]? = w.heap[b]?
  hA : κ'.A = κ.A

variable {w w' : World} {κ κ' : Cfg} {h h' : Heap} {clk clk' : Nat}

theorem Ext.ro (E : Ext w κ h clk w' κ' h' clk') {x : AV} {v : Value} (hr : Ro w (κ.X h w) x v) : Ro w' (κ'.X h' w') x v := hr.frame (fun b hb => (E.hX b hb).1) (fun b hb => (E.hX b hb).2)

theorem SlOk.ext {o : Rid} {ob ob' : Ob} {off len : Nat} {cap : Option Nat} {v : Value} (hι : κ'.ι o = κ.ι o) (hz : ob'.esz = ob.esz) (hl : ob'.es.length = ob.es.length) (hre : κ.re o → κ'.re o)
    (hb : κ.re o → ∀ n, OwnBlk w (κ.ι o).1 n → OwnBlk w' (κ.ι o).1 n) (hs : SlOk w κ o ob off len cap v) : SlOk w' κ' o ob' off len cap v := by
  rcases hs with ⟨h0, ha, hc⟩ | ⟨rc, h1, h2, h3, h4, h5, h6, h7⟩
  · exact .inl ⟨h0, ha, fun hn => by rw [hl]; exact hc hn⟩
  · refine .inr ⟨rc, hre h1, ?_, by rw [hl]; exact h3, h4, h5, fun hn => by rw [hl]; exact h6 hn, ?_⟩
    · rw [h2, Cfg.addr, Cfg.addr, hι, hz]
    · rw [hι, hz]; exact hb h1 _ h7

theorem VR.ext (E : Ext w κ h clk w' κ' h' clk') {x : AV} {v : Value} (hv : VR w κ h clk x v) : VR w' κ' h' clk' x v := by
  induction hv with
  | ro x v hr => exact .ro _ _ (E.ro hr)
  | ptr o ver e c v hs hl hp =>
    refine .ptr _ _ _ _ _ hs (Nat.lt_of_lt_of_le hl E.hclk) fun ob' hc => ?_
    obtain ⟨ob, h1, h2, h3, _⟩ := E.hcur o ver ob' hl hc
    rw [hp ob h1, Cfg.addr, Cfg.addr, h2, h3]
  | sl o ver off len cap v hs hl hp =>
    refine .sl _ _ _ _ _ _ hs (Nat.lt_of_lt_of_le hl E.hclk) fun ob' hc => ?_
    obtain ⟨ob, h1, h2, h3, h4, h5, h6⟩ := E.hcur o ver ob' hl hc
    exact (hp ob h1).ext h2 h3 h4 h5 h6
  | eptr cells c blk off val hX hc hr =>
    exact .eptr _ _ blk off val (E.hX _ hX).1 (fun j x hx => by rw [cell_same (E.hX _ hX).2]; exact hc j x hx) (fun j x hx => E.ro (hr j x hx))
  | agg cs vs hl hr ih => exact .agg _ _ hl ih
  | tup cs vs hl hr ih => exact .tup _ _ hl ih
  | fn f cs vs hl hr ih => exact .fn _ _ _ hl ih

theorem CR.ext (E : Ext w κ h clk w' κ' h' clk') {own own' : Prop} {S S' : Bs} {x : AV} {v : Value} (hc : CR w κ h clk own S x v) (hS : own' → ∀ b, S b → S' b) (hw : ∀ b, S b → w'.heap[b]? = w.heap[b]?)
    (ho : own' → own) (hX : ¬ own' → own → ∀ b, S b → κ'.X h' w' b) : CR w' κ' h' clk' own' S' x v := by
  cases x with
  | dat z es =>
    refine ⟨fun h1 => (hc.1 (ho h1)).frame (hS h1) hw, fun h1 => ?_⟩
    by_cases h2 : own
    · exact ((hc.1 h2).frame (S' := S) (fun _ hb => hb) hw).ro (hX h1 h2)
    · exact E.ro (hc.2 h2)
  | agg _ => exact hc.elim
  | tup _ => exact hc.elim
  | b _ => exact VR.ext E hc
  | i _ _ => exact VR.ext E hc
  | s _ => exact VR.ext E hc
  | nilp => exact VR.ext E hc
  | nils => exact VR.ext E hc
  | nilf => exact VR.ext E hc
  | undef => exact VR.ext E hc
  | ptr _ _ _ _ => exact VR.ext E hc
  | sl _ _ _ _ _ => exact VR.ext E hc
  | eptr _ _ => exact VR.ext E hc
  | fn _ _ => exact VR.ext E hc

/-- One object anew. -/
def Cfg.put (κ : Cfg) (o : Rid) (blk off : Nat) (F : Nat → Nat → Bs) : Cfg :=
  { ι := fun u => if u = o then (blk, off) else κ.ι u, re := fun u => if u = o then True else κ.re u, F := fun u => if u = o then F else κ.F u, A := κ.A }
theorem put_foot_ne {o u : Rid} {blk off : Nat} {F : Nat → Nat → Bs} (hu : u ≠ o) : (κ.put o blk off F).foot u = κ.foot u := by
  unfold Cfg.foot Cfg.put; simp [hu]
theorem put_foot {o : Rid} {blk off : Nat} {F : Nat → Nat → Bs} {b : Nat} : (κ.put o blk off F).foot o b ↔ b = blk ∨ ∃ e j, F e j b := by
  unfold Cfg.foot Cfg.put; simp

theorem HR.put {w0 : World} {P0 : Bs} {o : Rid} {ob' : Ob} {blk off : Nat} {F : Nat → Nat → Bs} (H : HR w0 P0 w κ h clk) (hclk : clk ≤ clk')
    (hv : clk ≤ ob'.ver ∨ ∃ ob, h o = some ob ∧ ob'.ver = ob.ver ∧ ob'.esz = ob.esz ∧ ob'.es.length = ob.es.length ∧ (blk, off) = κ.ι o)
    (hw : ∀ b, b ≠ blk → w'.heap[b]? = w.heap[b]?) (hsz : w.heap.size ≤ w'.heap.size) (hos : w'.os = w.os ∧ ∀ a, w'.frozen? a = w.frozen? a) (htp : w'.tape = w.tape) (hou : w'.output = w.output)
    (hblk : (w.heap.size ≤ blk ∧ blk < w'.heap.size) ∨ (∃ ob, h o = some ob ∧ κ.re o ∧ (κ.ι o).1 = blk))
    (hob : ∀ n, OwnBlk w blk n → OwnBlk w' blk n)
    (hF : ∀ e j b, F e j b → ∃ ob, h o = some ob ∧ κ.F o e j b) :
    Ext w κ h clk w' (κ.put o blk off F) (hup h o ob') clk' ∧
    (ObR w' (κ.put o blk off F) (hup h o ob') clk' o ob' → HR w0 P0 w' (κ.put o blk off F) (hup h o ob') clk') := by
  have nblk : ∀ b, κ.X h w b → b ≠ blk := by
    rintro b ⟨h1, _, h2⟩ rfl
    rcases hblk with ⟨h3, _⟩ | ⟨ob, h3, h4, h5⟩
    · omega
    · exact h2 o ob h3 (.inl ⟨h4, h5.symm⟩)
  have Fold : ∀ e j b, F e j b → ∃ ob, h o = some ob ∧ κ.foot o b := fun e j b hb => by
    obtain ⟨ob, h1, h2⟩ := hF e j b hb
    exact ⟨ob, h1, .inr ⟨e, j, h2⟩⟩
  have E : Ext w κ h clk w' (κ.put o blk off F) (hup h o ob') clk' := by
    refine ⟨hclk, fun u v ou hvl hc => ?_, fun b hb => ⟨⟨Nat.lt_of_lt_of_le hb.1 hsz, hb.2.1, fun u ou hu hf => ?_⟩, hw b (nblk b hb)⟩, rfl⟩
    · obtain ⟨h1, h2⟩ := cur_some hc
      by_cases hu : u = o
      · subst hu
        rw [hup_at, if_pos rfl] at h1; cases h1
        rcases hv with hv | ⟨ob, h3, h4, h5, h6, h7⟩
        · omega
        · refine ⟨ob, by unfold cur; rw [h3]; simp only; rw [if_pos (by omega)], by simp [Cfg.put, h7], h5, h6, fun _ => by simp [Cfg.put], fun _ n hn => ?_⟩
          rw [← h7] at hn ⊢
          exact hob n hn
      · rw [hup_at, if_neg hu] at h1
        refine ⟨ou, by unfold cur; rw [h1]; simp only; rw [if_pos h2], by simp [Cfg.put, hu], rfl, rfl, fun hh => by simp [Cfg.put, hu, hh], fun hh n hn => ?_⟩
        have : (κ.ι u).1 ≠ blk := by
          intro he
          rcases hblk with ⟨h3, _⟩ | ⟨ob, h3, h4, h5⟩
          · have := (H.base u ou _ h1 (.inl ⟨hh, rfl⟩)).2; omega
          · exact H.apart u o ou ob blk h1 h3 hu (.inl ⟨hh, he.symm⟩) (.inl ⟨h4, h5.symm⟩)
        exact hn.same (hw _ this)
    · by_cases hu' : u = o
      · subst hu'
        rcases put_foot.1 hf with h1 | ⟨e, j, h1⟩
        · exact nblk b hb h1
        · obtain ⟨ob, h2, h3⟩ := Fold e j b h1
          exact hb.2.2 u ob h2 h3
      · rw [put_foot_ne hu'] at hf
        rw [hup_at, if_neg hu'] at hu
        exact hb.2.2 u ou hu hf
  refine ⟨E, fun hO => ⟨fun u ou hu => ?_, fun u u' ou ou' b hu hu' hne hf hf' => ?_, fun u ou b hu hf => ?_, ⟨hos.1.trans H.os.1, fun a ha => (hos.2 a).trans (H.os.2 a ha)⟩, by rw [htp, H.tape], by rw [hou, H.output], Nat.le_trans H.size hsz, fun b hb hP => ?_, H.free, H.glob⟩⟩
  · by_cases huo : u = o
    · subst huo
      rw [hup_at, if_pos rfl] at hu; cases hu
      exact hO
    · rw [hup_at, if_neg huo] at hu
      have R := H.ob u ou hu
      have hblk' : κ.re u → (κ.ι u).1 ≠ blk := by
        intro hh he
        rcases hblk with ⟨h3, _⟩ | ⟨ob, h3, h4, h5⟩
        · have := (H.base u ou _ hu (.inl ⟨hh, rfl⟩)).2; omega
        · exact H.apart u o ou ob blk hu h3 huo (.inl ⟨hh, he.symm⟩) (.inl ⟨h4, h5.symm⟩)
      have hFb : ∀ e j b, κ.F u e j b → b ≠ blk := by
        rintro e j b hb rfl
        rcases hblk with ⟨h3, _⟩ | ⟨ob, h3, h4, h5⟩
        · have := (H.base u ou _ hu (.inr ⟨e, j, hb⟩)).2; omega
        · exact H.apart u o ou ob _ hu h3 huo (.inr ⟨e, j, hb⟩) (.inl ⟨h4, h5.symm⟩)
      refine ⟨Nat.lt_of_lt_of_le R.ver hclk, R.esz, fun hne => ?_, fun e j x hx => ?_, ?_, ?_⟩
      · obtain ⟨h1, h2⟩ := R.blk hne
        refine ⟨by simp [Cfg.put, huo, h1], ?_⟩
        have : (κ.put o blk off F).ι u = κ.ι u := by simp [Cfg.put, huo]
        rw [this]
        exact h2.same (hw _ (hblk' h1))
      · obtain ⟨v, h1, h2⟩ := R.cells e j x hx
        have ha : (κ.put o blk off F).addr u ou.esz e j = κ.addr u ou.esz e j := by simp [Cfg.addr, Cfg.put, huo]
        have hF' : (κ.put o blk off F).F u e j = κ.F u e j := by simp [Cfg.put, huo]
        have hne : ou.es ≠ [] := by
          intro he; unfold cellOf at hx; rw [he] at hx; simp at hx
        refine ⟨v, ?_, ?_⟩
        · rw [ha, Cfg.addr, cell_same (hw _ (hblk' (R.blk hne).1))]; exact h1
        · rw [hF']
          exact h2.ext E (fun _ _ hb => hb) (fun b hb => hw b (hFb e j b hb)) id (fun hn ho => absurd ho hn)
      · intro e j b hb
        have hF' : (κ.put o blk off F).F u e j = κ.F u e j := by simp [Cfg.put, huo]
        have : (κ.put o blk off F).ι u = κ.ι u := by simp [Cfg.put, huo]
        rw [hF'] at hb; rw [this]
        exact R.sep e j b hb
      · intro e j e' j' b hb hb'
        have hF' : ∀ e j, (κ.put o blk off F).F u e j = κ.F u e j := fun e j => by simp [Cfg.put, huo]
        rw [hF'] at hb hb'
        exact R.disj e j e' j' b hb hb'
  · have key : ∀ (u : Rid) (ou : Ob), hup h o ob' u = some ou → u ≠ o → κ.foot u b → (κ.put o blk off F).foot o b → False := by
      intro u ou hu huo gf gf'
      rw [hup_at, if_neg huo] at hu
      rcases put_foot.1 gf' with h1 | ⟨e, j, h1⟩
      · subst h1
        rcases hblk with ⟨h3, _⟩ | ⟨ob, h3, h4, h5⟩
        · have := (H.base u ou b hu gf).2; omega
        · exact H.apart u o ou ob b hu h3 huo gf (.inl ⟨h4, h5.symm⟩)
      · obtain ⟨ob, h2, h3⟩ := Fold e j b h1
        exact H.apart u o ou ob b hu h2 huo gf h3
    by_cases h1 : u = o
    · subst h1
      have h2 : u' ≠ u := fun hh => hne hh.symm
      rw [put_foot_ne h2] at hf'
      exact key u' ou' hu' h2 hf' hf
    · rw [put_foot_ne h1] at hf
      by_cases h2 : u' = o
      · subst h2; exact key u ou hu h1 hf hf'
      · rw [put_foot_ne h2] at hf'
        rw [hup_at, if_neg h1] at hu
        rw [hup_at, if_neg h2] at hu'
        exact H.apart u u' ou ou' b hu hu' hne hf hf'
  · by_cases h1 : u = o
    · subst h1
      rcases put_foot.1 hf with h2 | ⟨e, j, h2⟩
      · subst h2
        rcases hblk with ⟨h3, h4⟩ | ⟨ob, h3, h4, h5⟩
        · exact ⟨.inl (Nat.le_trans H.size h3), h4⟩
        · have := H.base u ob b h3 (.inl ⟨h4, h5.symm⟩)
          exact ⟨this.1, Nat.lt_of_lt_of_le this.2 hsz⟩
      · obtain ⟨ob, h3, h4⟩ := Fold e j b h2
        have := H.base u ob b h3 h4
        exact ⟨this.1, Nat.lt_of_lt_of_le this.2 hsz⟩
    · rw [put_foot_ne h1] at hf
      rw [hup_at, if_neg h1] at hu
      have := H.base u ou b hu hf
      exact ⟨this.1, Nat.lt_of_lt_of_le this.2 hsz⟩
  · have : b ≠ blk := by
      rintro rfl
      rcases hblk with ⟨h3, h4⟩ | ⟨ob, h3, h4, h5⟩
      · have := H.size; omega
      · rcases (H.base o ob b h3 (.inl ⟨h4, h5.symm⟩)).1 with h6 | h6
        · omega
        · exact hP h6
    rw [hw b this]
    exact H.old b hb hP
end Go.AM
end
