/- LightOnce: 'first' (printed by tools/genkz.py). -/
import Derived.Test.YtnlopklbbajlbaaSwKY
set_option linter.unusedVariables false
set_option linter.unusedSimpArgs false
set_option maxRecDepth 100000
namespace Go.Proofs.Ytnlopklbbajlbaa.Sw
open Go Go.Conc Go.ConcN Go.RowKit
open Go.ConcR (DC0 stA smA)
noncomputable def body11 : Code := Try.f11.body.getD .skip
noncomputable def body31 : Code := Try.f31.body.getD .skip
noncomputable def ops7 : Array Oper := (regionOf 7 body11).getD #[]
theorem dag7 : Dag ops7 := dag_of (by kernel_rfl)
theorem loud11 : (Try.prog.funcs[(Go.Conc.base 11).fn]?).any (·.norace) = false := by kernel_rfl
/-- Behind region 7. -/
noncomputable def REST7 : Code := (tailFrom 8 body11).getD .skip

/-- Which comes first: the load of the map, or the count. -/
def nx7 : List Nat → Pc
  | [] => .ia1
  | a :: l => if a = 3 then .ia1 else if a = 8 then .iba else nx7 l
/-- The quiet loads ahead of the next stop. -/
def cnt7 : List Nat → Nat
  | [] => 0
  | a :: l => if a = 3 ∨ a = 8 ∨ a = 9 then 0 else if a = 0 ∨ a = 5 then cnt7 l + 1 else cnt7 l
def pc7 (b3 b8 : Bool) (l : List Nat) : Pc := if b3 then (if b8 then .in2 else .ian) else (if b8 then .ibr else nx7 l)
theorem cnt7_le : ∀ l : List Nat, cnt7 l ≤ l.length
  | [] => Nat.le_refl _
  | a :: l => by
    have := cnt7_le l
    simp only [cnt7, List.length_cons]
    split
    · omega
    · split <;> omega
theorem nx7_or (l : List Nat) : nx7 l = .ia1 ∨ nx7 l = .iba := by
  induction l with
  | nil => exact .inl rfl
  | cons a l ih =>
    simp only [nx7]
    split
    · exact .inl rfl
    · split
      · exact .inr rfl
      · exact ih
theorem pc7_quit (b3 b8 : Bool) (l : List Nat) : pc7 b3 b8 l ≠ .quit := by
  unfold pc7
  rcases nx7_or l with h | h <;> cases b3 <;> cases b8 <;> simp [h]
section
variable {c : TC} {q : AP} {bx : Nat} {p p' : World → Prop} {k : Nat} {T : Wk} {g : Goroutine}
/-- What holds from fewer worlds. -/
theorem WU.weaken (h : WU c q bx p k T g) (hp : ∀ w, p' w → p w) : WU c q bx p' k T g := by
  refine ⟨h.1, fun j hj => ?_⟩
  obtain ⟨m, hm⟩ := h.2 j hj
  exact ⟨m, fun w hw => hm w (hp w hw)⟩
/-- The map's block is known from here on. -/
def Sn (c : TC) (mp : Nat) (p : World → Prop) (w : World) : Prop := p w ∧ w.cell? (seA c) = some (.map (some mp))
theorem KN.sn (K : KN c bx p) (mp : Nat) : KN c bx (Sn c mp p) :=
  ⟨fun w w₁ h r => ⟨K.st w w₁ h.1 r, r.seen mp h.2⟩, fun w h => K.bx w h.1, fun w h => K.live w h.1⟩
theorem sn_mp {w : World} {s : Sh} {mp : Nat} (hs : ShAt 46 55 4 c w s) (h : w.cell? (seA c) = some (.map (some mp))) : s.mp = mp := by
  rw [hs.cSe] at h
  unfold seV at h
  split at h
  · cases h; rfl
  · cases h
theorem sn_here {w : World} {s : Sh} (hs : ShAt 46 55 4 c w s) (h2 : s.st = 2) : w.cell? (seA c) = some (.map (some s.mp)) := by
  rw [hs.cSe]; simp [seV, h2]
/-- The map with one name more. -/
theorem ShAt.ins {w : World} {s : Sh} (h : ShAt 46 55 4 c w s) (h2 : s.st = 2) {es : Array MapEntry} {ck : Nat} {o : Obj} {es' : Array MapEntry} {ck' : Nat} {con' : List ByteArray} (hb : w.heap[s.mp]? = some (.map es ck)) (ho : o = .map es' ck') (hk : es'.toList.map (·.key) = con'.map Value.string) :
    ShAt 46 55 4 c { w with heap := w.heap.setIfInBounds s.mp o } { s with con := con' } := by
  obtain ⟨n1, n2, n3⟩ := mp_ne h (by omega)
  have hlt := (h.m (by omega)).1
  have key : ∀ b, b ≠ s.mp → (w.heap.setIfInBounds s.mp o)[b]? = w.heap[b]? := fun b hb => by simp [Ne.symm hb]
  refine ⟨?_, ?_, ?_, fun x => ⟨?_, es', ck', ?_, hk⟩, ?_, h.mo, fun e => by rw [h2] at e; cases e⟩
  · show (w.heap.setIfInBounds s.mp o)[c.A]? = _
    rw [key _ (Ne.symm n1)]; exact h.a
  · show (w.heap.setIfInBounds s.mp o)[c.Wg]? = _
    rw [key _ (Ne.symm n2)]; exact h.g
  · show ∃ cs : Array Value, (w.heap.setIfInBounds s.mp o)[c.F]? = _ ∧ _
    rw [key _ (Ne.symm n3)]; exact h.f
  · show s.mp < (w.heap.setIfInBounds s.mp o).size
    simpa using hlt
  · show (w.heap.setIfInBounds s.mp o)[s.mp]? = _
    rw [ho]; simp [hlt]
  · show c.Low ≤ (w.heap.setIfInBounds s.mp o).size
    simpa using h.low
theorem Eff.ins {w : World} {s : Sh} (o : Option Nat) (h2 : s.st = 2) (x : Obj) : Eff c s o w { w with heap := w.heap.setIfInBounds s.mp x } := by
  refine ⟨rfl, rfl, .refl _, by simp, fun b _ _ _ _ h _ => ?_⟩
  have : b ≠ s.mp := h (by omega)
  simp [Ne.symm this]
end

section
variable {c : TC} {q : AP} {bx : Nat} {i m : Nat} {cs : List Frame} {b₁ : Frame} {a₁ : Act} {ops₁ : Array Oper} {i₁ : Nat} {rest₁ : List Nat} {k₁ : List Item}

set_option maxHeartbeats 16000000 in
/-- ████ THE COUNT AND THE ENTRY, in every order. ████ -/
theorem r7 (hN : q.S0.length + q.n + q.W < 1152921504606846976) (k : Nat) (old : MuW) (aw sv r : Bool) (it : Nat) (p0 : World → Prop) (t3 t4 t5 t6 t7 t8 t9 t10 t11 t12 t13 t14 t15 t16 t17 t18 t19 t20 t21 t22 t23 t24 t25 t26 t27 t28 : Value) (ds : List Deferred)
    (next : ∀ (k' : Nat), k' ≤ k → ∀ j29 j30 j31 j32 j33 j34 j35 j36 j37 : Value, WU c q bx p0 k' ⟨.ur, 0, false, i, old, aw, sv, it, true, bx, m⟩ (G ((Go.Conc.base 11).at ⟨#[.pointer (some ⟨c.A, 0, none⟩), .string (q.nm i), .pointer (some ⟨bx, 0, none⟩), t3, t4, t5, t6, t7, t8, t9, t10, t11, t12, t13, t14, t15, t16, t17, t18, t19, t20, t21, t22, t23, t24, t25, t26, t27, t28, j29, j30, j31, j32, j33, j34, j35, j36, j37], ds⟩ [.inRegion ops7 [], .code REST7]) (b₁.at a₁ (.inRegion ops₁ (i₁ :: rest₁) :: k₁) :: cs))) :
    ∀ (l : List Nat), l.length ≤ 10 → ∀ (k' : Nat), k' ≤ k → ∀ (b0 b1 b2 b3 b4 b5 b6 b7 b8 : Bool) (mp : Nat) (p : World → Prop), KN c bx p → OwnA c bx p → (∀ w, p w → p0 w) → (b3 = true → ∀ w, p w → w.cell? (seA c) = some (.map (some mp))) → Ord ops7 #[b0, b1, b2, b3, b4, b5, b6, b7, b8, false] l → ∀ (j29 j30 j31 j32 j33 j34 j35 j36 j37 : Value), (b1 = true → b0 = true) → (b2 = true → b1 = true) → (b3 = true → b2 = true) → (b6 = true → b5 = true) → (b7 = true → b6 = true) → (b8 = true → b7 = true) → (b0 = true → j29 = .pointer (some ⟨c.A, 0, none⟩)) → (b1 = true → j30 = .pointer (some ⟨c.A, 0, none⟩)) → (b2 = true → j31 = .pointer (some ⟨c.A, 5, none⟩)) → (b3 = true → j32 = .map (some mp)) → (b4 = true → j33 = .string (q.nm i)) → (b5 = true → j34 = .pointer (some ⟨c.A, 0, none⟩)) → (b6 = true → j35 = .pointer (some ⟨c.A, 0, none⟩)) → (b7 = true → j36 = .pointer (some ⟨c.A, 6, none⟩)) → (b8 = true → ∃ vn, j37 = .int .i64 vn) →
      WU c q bx p k' ⟨pc7 b3 b8 l, cnt7 l, false, i, old, aw, sv, it, r, bx, m⟩ (G ((Go.Conc.base 11).at ⟨#[.pointer (some ⟨c.A, 0, none⟩), .string (q.nm i), .pointer (some ⟨bx, 0, none⟩), t3, t4, t5, t6, t7, t8, t9, t10, t11, t12, t13, t14, t15, t16, t17, t18, t19, t20, t21, t22, t23, t24, t25, t26, t27, t28, j29, j30, j31, j32, j33, j34, j35, j36, j37], ds⟩ [.inRegion ops7 l, .code REST7]) (b₁.at a₁ (.inRegion ops₁ (i₁ :: rest₁) :: k₁) :: cs)) := by
  intro l
  induction l with
  | nil =>
    intro hlen k' hk' b0 b1 b2 b3 b4 b5 b6 b7 b8 mp p K hA hpp hsn ho
    have := ho 9 (by decide +kernel)
    simp at this
  | cons x l ih =>
    intro hlen k' hk' b0 b1 b2 b3 b4 b5 b6 b7 b8 mp p K hA hpp hsn ho j29 j30 j31 j32 j33 j34 j35 j36 j37 i1 i2 i3 i6 i7 i8 h0 h1 h2 h3 h4 h5 h6 h7 h8
    have hp := K.st
    have hlt : x < 10 := ho.lt
    have hlen : l.length ≤ 9 := by simp only [List.length_cons] at hlen; omega
    obtain ⟨hok, ho⟩ := ho
    obtain rfl | rfl | rfl | rfl | rfl | rfl | rfl | rfl | rfl | rfl : x = 0 ∨ x = 1 ∨ x = 2 ∨ x = 3 ∨ x = 4 ∨ x = 5 ∨ x = 6 ∨ x = 7 ∨ x = 8 ∨ x = 9 := by omega
    · simp [okAt, ops7, regionOf, body11, Try.f11, Region.binds] at hok
      subst hok
      have ih2 := ih (by omega) k' hk' true b1 b2 b3 b4 b5 b6 b7 b8 mp p K hA hpp hsn ho (.pointer (some ⟨c.A, 0, none⟩)) j30 j31 j32 j33 j34 j35 j36 j37 (fun _ => rfl) i2 i3 i6 i7 i8 (fun _ => rfl) h1 h2 h3 h4 h5 h6 h7 h8
      simp (config := { decide := true }) only [ops7, regionOf, body11, Try.f11, Option.getD_some, reduceIte, Option.some.injEq, Nat.reduceEqDiff, reduceCtorEq] at ih2 ⊢
      refine WU.ld K rfl (m := cnt7 l) 24 (by simp) rfl (pc7_quit _ _ _) rfl rfl (by k_ne) rfl rfl loud11 hA (.inr rfl) ?_
      exact ih2
    · simp [okAt, ops7, regionOf, body11, Try.f11, Region.binds] at hok
      obtain ⟨rfl, rfl⟩ := hok
      obtain rfl := h0 rfl
      have ih2 := ih (by omega) k' hk' true true b2 b3 b4 b5 b6 b7 b8 mp p K hA hpp hsn ho (.pointer (some ⟨c.A, 0, none⟩)) (.pointer (some ⟨c.A, 0, none⟩)) j31 j32 j33 j34 j35 j36 j37 (fun _ => rfl) (fun _ => rfl) i3 i6 i7 i8 (fun _ => rfl) (fun _ => rfl) h2 h3 h4 h5 h6 h7 h8
      simp (config := { decide := true }) only [ops7, regionOf, body11, Try.f11, Option.getD_some, reduceIte, Option.some.injEq, Nat.reduceEqDiff, reduceCtorEq] at ih2 ⊢
      refine WU.val K _ rfl rfl (by k_ne) (fun _ => by go_simp <;> rfl) (fun _ => by simp [go_sem]) ?_
      exact ih2
    · simp [okAt, ops7, regionOf, body11, Try.f11, Region.binds] at hok
      obtain ⟨rfl, rfl⟩ := hok
      obtain rfl := h1 rfl
      have ih2 := ih (by omega) k' hk' b0 true true b3 b4 b5 b6 b7 b8 mp p K hA hpp hsn ho j29 (.pointer (some ⟨c.A, 0, none⟩)) (.pointer (some ⟨c.A, 5, none⟩)) j32 j33 j34 j35 j36 j37 i1 (fun _ => rfl) (fun _ => rfl) i6 i7 i8 h0 (fun _ => rfl) (fun _ => rfl) h3 h4 h5 h6 h7 h8
      simp (config := { decide := true }) only [ops7, regionOf, body11, Try.f11, Option.getD_some, reduceIte, Option.some.injEq, Nat.reduceEqDiff, reduceCtorEq] at ih2 ⊢
      refine WU.val K _ rfl rfl (by k_ne) (fun _ => by go_simp <;> rfl) (fun _ => by simp [go_sem]) ?_
      exact ih2
    · simp [okAt, ops7, regionOf, body11, Try.f11, Region.binds] at hok
      obtain ⟨rfl, rfl⟩ := hok
      obtain rfl := h2 rfl
      refine ⟨rfl, fun j hj => ?_⟩
      have ih2 := fun mp => ih (by omega) j (by omega) b0 b1 true true b4 b5 b6 b7 b8 mp (Sn c mp p) (K.sn mp) (fun w h => hA w h.1) (fun w h => hpp w h.1) (fun _ w h => h.2) ho j29 j30 (.pointer (some ⟨c.A, 5, none⟩)) (.map (some mp)) j33 j34 j35 j36 j37 i1 i2 (fun _ => rfl) i6 i7 i8 h0 h1 (fun _ => rfl) (fun _ => rfl) h4 h5 h6 h7 h8
      simp (config := { decide := true }) only [ops7, regionOf, body11, Try.f11, Option.getD_some, reduceIte, Option.some.injEq, Nat.reduceEqDiff, reduceCtorEq] at ih2 ⊢
      -- STOP ia1, ibr
      refine stopWp K rfl rfl (by simp [cnt7]) (by cases b8 <;> simp [pc7, nx7]) (by cases b8 <;> simp [pc7, nx7]) (fun w s hw hs hf => ?_)
      have hd : s.done = true := by have := hf.locO; cases b8 <;> simp only [pc7, nx7, LocO, if_true, if_false, Bool.false_eq_true] at this <;> exact this.2
      have h2 := hf.st2 hd
      refine ⟨⟨pc7 true b8 l, 0, false, i, old, aw, sv, it, r, bx, m⟩, cnt7 l, s, _, _, _, Sn c s.mp p, by cases b8 <;> simp [Step, pc7, nx7, cnt7], ?_, stepV1 rfl rfl (by k_ne) loud11 (ld_run 41 (by simp) (ad := seA c) rfl rfl (sn_here hs h2)), hs, Eff.refl _ _ _, rfl, by cases b8 <;> simp [EvW, cnt7, pc7, nx7], (by show pc7 true b8 l ≠ .quit; exact pc7_quit _ _ _), fun h => ⟨h, sn_here hs h2⟩, ?_⟩
      · have := cnt7_le l; have := hlen; cases b8 <;> simp [pc7, bare] <;> omega
      exact ih2 s.mp
    · simp [okAt, ops7, regionOf, body11, Try.f11, Region.binds] at hok
      subst hok
      have ih2 := ih (by omega) k' hk' b0 b1 b2 b3 true b5 b6 b7 b8 mp p K hA hpp hsn ho j29 j30 j31 j32 (.string (q.nm i)) j34 j35 j36 j37 i1 i2 i3 i6 i7 i8 h0 h1 h2 h3 (fun _ => rfl) h5 h6 h7 h8
      simp (config := { decide := true }) only [ops7, regionOf, body11, Try.f11, Option.getD_some, reduceIte, Option.some.injEq, Nat.reduceEqDiff, reduceCtorEq] at ih2 ⊢
      refine WU.val K _ rfl rfl (by k_ne) (fun _ => by go_simp <;> rfl) (fun _ => by simp [go_sem]) ?_
      exact ih2
    · simp [okAt, ops7, regionOf, body11, Try.f11, Region.binds] at hok
      subst hok
      have ih2 := ih (by omega) k' hk' b0 b1 b2 b3 b4 true b6 b7 b8 mp p K hA hpp hsn ho j29 j30 j31 j32 j33 (.pointer (some ⟨c.A, 0, none⟩)) j35 j36 j37 i1 i2 i3 (fun _ => rfl) i7 i8 h0 h1 h2 h3 h4 (fun _ => rfl) h6 h7 h8
      simp (config := { decide := true }) only [ops7, regionOf, body11, Try.f11, Option.getD_some, reduceIte, Option.some.injEq, Nat.reduceEqDiff, reduceCtorEq] at ih2 ⊢
      refine WU.ld K rfl (m := cnt7 l) 24 (by simp) rfl (pc7_quit _ _ _) rfl rfl (by k_ne) rfl rfl loud11 hA (.inr rfl) ?_
      exact ih2
    · simp [okAt, ops7, regionOf, body11, Try.f11, Region.binds] at hok
      obtain ⟨rfl, rfl⟩ := hok
      obtain rfl := h5 rfl
      have ih2 := ih (by omega) k' hk' b0 b1 b2 b3 b4 true true b7 b8 mp p K hA hpp hsn ho j29 j30 j31 j32 j33 (.pointer (some ⟨c.A, 0, none⟩)) (.pointer (some ⟨c.A, 0, none⟩)) j36 j37 i1 i2 i3 (fun _ => rfl) (fun _ => rfl) i8 h0 h1 h2 h3 h4 (fun _ => rfl) (fun _ => rfl) h7 h8
      simp (config := { decide := true }) only [ops7, regionOf, body11, Try.f11, Option.getD_some, reduceIte, Option.some.injEq, Nat.reduceEqDiff, reduceCtorEq] at ih2 ⊢
      refine WU.val K _ rfl rfl (by k_ne) (fun _ => by go_simp <;> rfl) (fun _ => by simp [go_sem]) ?_
      exact ih2
    · simp [okAt, ops7, regionOf, body11, Try.f11, Region.binds] at hok
      obtain ⟨rfl, rfl⟩ := hok
      obtain rfl := h6 rfl
      have ih2 := ih (by omega) k' hk' b0 b1 b2 b3 b4 b5 true true b8 mp p K hA hpp hsn ho j29 j30 j31 j32 j33 j34 (.pointer (some ⟨c.A, 0, none⟩)) (.pointer (some ⟨c.A, 6, none⟩)) j37 i1 i2 i3 i6 (fun _ => rfl) (fun _ => rfl) h0 h1 h2 h3 h4 h5 (fun _ => rfl) (fun _ => rfl) h8
      simp (config := { decide := true }) only [ops7, regionOf, body11, Try.f11, Option.getD_some, reduceIte, Option.some.injEq, Nat.reduceEqDiff, reduceCtorEq] at ih2 ⊢
      refine WU.val K _ rfl rfl (by k_ne) (fun _ => by go_simp <;> rfl) (fun _ => by simp [go_sem]) ?_
      exact ih2
    · simp [okAt, ops7, regionOf, body11, Try.f11, Region.binds] at hok
      obtain ⟨rfl, rfl⟩ := hok
      obtain rfl := h7 rfl
      refine ⟨rfl, fun j hj => ?_⟩
      have ih2 := fun vn => ih (by omega) j (by omega) b0 b1 b2 b3 b4 b5 b6 true true mp p K hA hpp hsn ho j29 j30 j31 j32 j33 j34 j35 (.pointer (some ⟨c.A, 6, none⟩)) (.int .i64 vn) i1 i2 i3 i6 i7 (fun _ => rfl) h0 h1 h2 h3 h4 h5 h6 (fun _ => rfl) (fun _ => ⟨vn, rfl⟩)
      simp (config := { decide := true }) only [ops7, regionOf, body11, Try.f11, Option.getD_some, reduceIte, Option.some.injEq, Nat.reduceEqDiff, reduceCtorEq] at ih2 ⊢
      (refine GU.call hp rfl rfl (by k_ne) rfl Try.func31 nm31 rfl ?_; walk_nrmf Try.f31)
      (refine GU.ctl hp rfl (fun _ => stepG_seq) ?_; refine GU.ctl hp rfl (fun _ => stepG_region) ?_; simp only [List.size_toArray, List.length_cons, List.length_nil, Nat.reduceAdd, Nat.zero_add, List.range, List.range.loop]; refine GU.value hp _ rfl rfl (by k_ne) (fun _ => by go_simp <;> rfl) (fun _ => by simp [go_sem, *]) ?_; walk_nrm; refine GU.ctl hp rfl (fun _ => stepG_region_end) ?_; refine GU.ctl hp rfl (fun _ => stepG_seq) ?_; refine GU.ctl hp rfl (fun _ => stepG_region) ?_; simp only [List.size_toArray, List.length_cons, List.length_nil, Nat.reduceAdd, Nat.zero_add, List.range, List.range.loop]; (iterate 4 (refine GU.value hp _ rfl rfl (by k_ne) (fun _ => by go_simp <;> rfl) (fun _ => by simp [go_sem, *]) ?_; walk_nrm)))
      -- STOP ian, iba
      refine stopW K rfl rfl (by simp [cnt7]) (by cases b3 <;> simp [pc7, nx7]) (by cases b3 <;> simp [pc7, nx7]) (fun w s hw hs hf => ?_)
      have hnb := hf.nb
      have hwr : IntKind.i64.wrap ((s.num : Int) + 1) = ((s.num + 1 : Nat) : Int) := by rw [IntKind.wrap_i64]; omega
      refine ⟨⟨pc7 b3 true l, 0, false, i, old, aw, sv, it, r, bx, m⟩, cnt7 l, { s with num := s.num + 1 }, _, _, _, by cases b3 <;> simp [Step, pc7, nx7, cnt7], ?_, stepG_add_atomic rfl rfl (by k_ne) rfl Try.func46 x46_n x46_b x46_x .i64 x46_f (ad := nmA c) rfl rfl hs.cNm (hs.thA _), by rw [hwr]; exact hs.setNm _, Eff.set _ _ _ _ _ (.inl rfl), (aside_setCell _ _ _).size, by cases b3 <;> (simp only [EvW, cnt7, pc7, nx7]; simp; exact atm_rw _), (by show pc7 b3 true l ≠ .quit; exact pc7_quit _ _ _), ?_⟩
      · have := cnt7_le l; have := hlen; cases b3 <;> simp [pc7, bare] <;> omega
      have ih2 := ih2 (IntKind.i64.wrap ((s.num : Int) + 1))
      generalize IntKind.i64.wrap ((s.num : Int) + 1) = vn at *
      clear hw hs hf hnb hwr
      refine ⟨rfl, fun j2 hj2 => ?_⟩
      walk_nrm
      (refine GU.value hp _ rfl rfl (by k_ne) (fun _ => by go_simp <;> rfl) (fun _ => by simp [go_sem, *]) ?_; walk_nrm; refine GU.ctl hp rfl (fun _ => stepG_region_end) ?_; refine GU.ctl hp rfl (fun _ => stepG_ret') ?_)
      (refine GU.leave1 hp rfl rfl Try.func31 rfl ?_; walk_nrm)
      exact ih2.2 j2 hj2
    · simp [okAt, ops7, regionOf, body11, Try.f11, Region.binds] at hok
      obtain ⟨rfl, rfl, rfl, rfl, rfl, rfl, -, -, rfl, rfl, rfl, -⟩ := hok
      obtain rfl := h3 rfl
      obtain rfl := h4 rfl
      obtain ⟨vn, rfl⟩ := h8 rfl
      obtain rfl : l = [] := ho.nil (by decide +kernel)
      refine ⟨rfl, fun j hj => ?_⟩
      have hn := next j (by omega) j29 j30 j31 (.map (some mp)) (.string (q.nm i)) j34 j35 j36 (.int .i64 vn)
      simp (config := { decide := true }) only [ops7, regionOf, body11, Try.f11, Option.getD_some, reduceIte, Option.some.injEq, Nat.reduceEqDiff, reduceCtorEq] at hn ⊢
      -- STOP in2
      refine stopW K rfl rfl rfl (by simp [pc7]) (by simp [pc7]) (fun w s hw hs hf => ?_)
      have hd : s.done = true := by have := hf.locO; simp only [pc7, LocO, if_true] at this; exact this.2
      have h2 := hf.st2 hd
      have hnot : q.nm i ∉ s.con := by have := hf.locC; simp only [pc7, LocC, if_true] at this; exact this
      obtain rfl := sn_mp hs (hsn rfl w hw)
      obtain ⟨hlt2, es, ck, hb, hk⟩ := hs.m (by omega)
      refine ⟨⟨.ur, 0, false, i, old, aw, sv, it, true, bx, m⟩, 0, { s with con := s.con ++ [q.nm i] }, _, _, _, by simp [Step, pc7, cnt7], by simp [bare], stepG_none rfl rfl (by k_ne) (mu_run rfl rfl rfl rfl hb hk hnot).1, hs.ins h2 hb rfl ?_, Eff.ins _ h2 _, by simp, ?_, by simp, ?_⟩
      · simp [hk]
      · simp only [EvW, cnt7, pc7]; simp only [if_true, Nat.lt_irrefl, if_false]; exact fun e he => (mu_run rfl rfl rfl rfl hb hk hnot).2 e (mem_listed he)
      · exact hn.weaken hpp
/-- Out of 'first'. -/
theorem firstTail {p : World → Prop} (K : KN c bx p) (hB : q.B < 60) (k cN : Nat) (hcN : cN ≤ 16) (r : Bool) (next : ∀ old aw sv it m, WU c q bx p k ⟨.wf, cN, false, i, old, aw, sv, it, r, bx, m⟩ (G (b₁.at (a₁.put ((ops₁[i₁]?).bind (·.dst)) (.bool r)) (.inRegion ops₁ rest₁ :: k₁)) cs))
    (old : MuW) (aw sv : Bool) (it m : Nat) (ts : Array Value) (hts : ts.getD 4 undef = .bool r) (todo : List Item) :
    WU c q bx p k ⟨.ur, 0, false, i, old, aw, sv, it, r, bx, m⟩ (G { (Go.Conc.base 11).at ⟨ts, [dcall 30 #[.pointer (some ⟨c.A, 3, none⟩)]]⟩ todo with mode := .returning } (b₁.at a₁ (.inRegion ops₁ (i₁ :: rest₁) :: k₁) :: cs)) := by
  have hp := K.st
  refine ⟨rfl, fun j hj => ?_⟩
  refine GU.unwind hp rfl Try.func30 nm30 rfl ?_
  walk_nrmf Try.f30
  refine (unlockD K (by omega) (o := 3) (b := false) rfl rfl (k := k) rfl cN hcN (fun old => ⟨rfl, fun j hj => ?_⟩)).2 j hj
  refine GU.leave1 hp rfl rfl Try.func11 rfl ?_
  rw [hts]
  exact (next old aw sv it m).2 j hj
set_option maxHeartbeats 16000000 in
/-- ████ first ████ -/
theorem firstL {p : World → Prop} (K : KN c bx p) (hB : q.B < 60) (hN : q.S0.length + q.n + q.W < 1152921504606846976) {PP : Nat → World → Prop} (KP : ∀ z, KN c z (PP z)) (AP : ∀ z, OwnA c z (PP z))
    (hnew : ∀ w s, p w → ShAt 46 55 4 c w s → PP w.heap.size (w.alloc (.cells #[.pointer (some ⟨c.A, 0, none⟩)] 24))) (k cN : Nat) (hcN : cN ≤ 16)
    (next : ∀ z r old aw sv it m, WU c q z (PP z) k ⟨.wf, cN, false, i, old, aw, sv, it, r, z, m⟩ (G (b₁.at (a₁.put ((ops₁[i₁]?).bind (·.dst)) (.bool r)) (.inRegion ops₁ rest₁ :: k₁)) cs))
    (old : MuW) (aw sv r b : Bool) (it : Nat) :
    WU c q bx p k ⟨.bx, 0, b, i, old, aw, sv, it, r, bx, m⟩ (G ((Go.Conc.base 11).at ⟨#[.pointer (some ⟨c.A, 0, none⟩), .string (q.nm i), undef, undef, undef, undef, undef, undef, undef, undef, undef, undef, undef, undef, undef, undef, undef, undef, undef, undef, undef, undef, undef, undef, undef, undef, undef, undef, undef, undef, undef, undef, undef, undef, undef, undef, undef, undef], []⟩ [.code body11]) (b₁.at a₁ (.inRegion ops₁ (i₁ :: rest₁) :: k₁) :: cs)) := by
  have hp := K.st
  refine ⟨rfl, fun j hj => ?_⟩
  simp only [body11, Try.f11, Option.getD_some]
  (refine GU.ctl hp rfl (fun _ => stepG_seq) ?_; refine GU.ctl hp rfl (fun _ => stepG_region) ?_; simp only [List.size_toArray, List.length_cons, List.length_nil, Nat.reduceAdd, Nat.zero_add, List.range, List.range.loop])
  -- STOP bx
  refine stopW_bx K rfl rfl rfl rfl (p' := PP) (fun w s hw hs hf => ⟨1, _, _, by omega, stepV0 rfl rfl (by k_ne) (box_run rfl rfl), hs.alloc _, Eff.alloc _ _ _ _, alloc_size _ _, hnew w s hw hs, ?_⟩)
  generalize w.heap.size = z
  clear hw hs hf hp
  have hp := (KP z).st
  refine ⟨rfl, fun j2 hj2 => ?_⟩
  walk_nrm
  (refine GU.value hp _ rfl rfl (by k_ne) (fun _ => by go_simp <;> rfl) (fun _ => by simp [go_sem, *]) ?_; walk_nrm; refine GU.ctl hp rfl (fun _ => stepG_region_end) ?_; refine GU.ctl hp rfl (fun _ => stepG_seq) ?_; refine GU.ctl hp rfl (fun _ => stepG_region) ?_; simp only [List.size_toArray, List.length_cons, List.length_nil, Nat.reduceAdd, Nat.zero_add, List.range, List.range.loop])
  refine stopLd (KP z) rfl 24 (by simp) rfl (by simp) rfl rfl (by k_ne) rfl rfl loud11 (AP z) (.inr rfl) ⟨rfl, fun j3 hj3 => ?_⟩
  walk_nrm
  ((iterate 3 (refine GU.value hp _ rfl rfl (by k_ne) (fun _ => by go_simp <;> rfl) (fun _ => by simp [go_sem, *]) ?_; walk_nrm)))
  (refine GU.call hp rfl rfl (by k_ne) rfl Try.func27 nm27 rfl ?_; walk_nrmf Try.f27)
  refine (doL (KP z) (AP z) hB k (fun old it m => ⟨rfl, fun j hj => ?_⟩) old aw sv it b).2 j3 (by omega)
  walk_nrm
  (refine GU.ctl hp rfl (fun _ => stepG_region_end) ?_; refine GU.ctl hp rfl (fun _ => stepG_seq) ?_; refine GU.ctl hp rfl (fun _ => stepG_region) ?_; simp only [List.size_toArray, List.length_cons, List.length_nil, Nat.reduceAdd, Nat.zero_add, List.range, List.range.loop])
  refine stopLd (KP z) rfl 24 (by simp) rfl (by simp) rfl rfl (by k_ne) rfl rfl loud11 (AP z) (.inr rfl) ⟨rfl, fun j4 hj4 => ?_⟩
  walk_nrm
  ((iterate 2 (refine GU.value hp _ rfl rfl (by k_ne) (fun _ => by go_simp <;> rfl) (fun _ => by simp [go_sem, *]) ?_; walk_nrm)))
  (refine GU.call hp rfl rfl (by k_ne) rfl Try.func29 nm29 rfl ?_; walk_nrmf Try.f29)
  refine (lockL (KP z) hB (o := 3) (b := false) rfl rfl (k₀ := k) (cN := 2) (by omega) (fun old aw sv it => ⟨rfl, fun j hj => ?_⟩) old false false it).2 j4 (by omega)
  walk_nrm
  (refine GU.ctl hp rfl (fun _ => stepG_region_end) ?_; refine GU.ctl hp rfl (fun _ => stepG_seq) ?_; refine GU.ctl hp rfl (fun _ => stepG_region) ?_; simp only [List.size_toArray, List.length_cons, List.length_nil, Nat.reduceAdd, Nat.zero_add, List.range, List.range.loop])
  refine stopLd (KP z) rfl 24 (by simp) (m := 1) rfl (by simp [aftL]) rfl rfl (by k_ne) rfl rfl loud11 (AP z) (.inr rfl) ⟨rfl, fun j5 hj5 => ?_⟩
  walk_nrm
  ((iterate 2 (refine GU.value hp _ rfl rfl (by k_ne) (fun _ => by go_simp <;> rfl) (fun _ => by simp [go_sem, *]) ?_; walk_nrm)))
  (refine GU.ctl hp rfl (fun _ => stepG_defer rfl rfl (by k_ne) rfl) ?_; walk_nrm)
  (refine GU.ctl hp rfl (fun _ => stepG_region_end) ?_; (iterate 2 (refine GU.ctl hp rfl (fun _ => stepG_seq) ?_)); refine GU.ctl hp rfl (fun _ => stepG_region) ?_; simp only [List.size_toArray, List.length_cons, List.length_nil, Nat.reduceAdd, Nat.zero_add, List.range, List.range.loop])
  refine stopLd (KP z) rfl 24 (by simp) (m := 0) rfl (by simp [aftL]) rfl rfl (by k_ne) rfl rfl loud11 (AP z) (.inr rfl) ⟨rfl, fun j6 hj6 => ?_⟩
  walk_nrm
  ((iterate 2 (refine GU.value hp _ rfl rfl (by k_ne) (fun _ => by go_simp <;> rfl) (fun _ => by simp [go_sem, *]) ?_; walk_nrm)))
  -- STOP lk1
  refine stopWp (KP z) rfl rfl rfl (by simp [aftL]) (by simp [aftL]) (fun w s hw hs hf => ?_)
  have hd : s.done = true := by have := hf.locO; simp only [aftL, LocO, if_false, Bool.false_eq_true] at this; exact this.2
  have h2 := hf.st2 hd
  refine ⟨⟨.lk2, 0, false, i, old, aw, sv, it, r, z, m⟩, 0, s, _, _, _, Sn c s.mp (PP z), by simp [Step, aftL], by simp [bare], stepV1 rfl rfl (by k_ne) loud11 (ld_run 41 (by simp) (ad := seA c) rfl rfl (sn_here hs h2)), hs, Eff.refl _ _ _, rfl, by simp [EvW, aftL], by simp, fun h => ⟨h, sn_here hs h2⟩, ?_⟩
  generalize s.mp = mp
  clear hw hs hf hd h2
  refine ⟨rfl, fun j7 hj7 => ?_⟩
  walk_nrm
  have hp' := hp
  clear hp
  have hp := ((KP z).sn mp).st
  (refine GU.value hp _ rfl rfl (by k_ne) (fun _ => by go_simp <;> rfl) (fun _ => by simp [go_sem, *]) ?_; walk_nrm)
  -- STOP lk2
  refine stopWp ((KP z).sn mp) rfl rfl rfl (by simp) (by simp) (fun w s hw hs hf => ?_)
  have hd : s.done = true := by have := hf.locO; simp only [LocO] at this; exact this.2
  have h2 := hf.st2 hd
  obtain rfl := sn_mp hs hw.2
  obtain ⟨hlt2, es, ck, hb, hk⟩ := hs.m (by omega)
  have hiff := lkB_iff (nm := q.nm i) hk
  have hrun := fun (o : Oper) (a : Act) (x y : Operand) h1 h2 h3 => lk_run (o := o) (a := a) (x := x) (y := y) (nm := q.nm i) h1 h2 h3 hb hk
  rcases hlb : lkB es (q.nm i) with _ | _
  · rw [hlb] at hiff hrun
    refine ⟨⟨.dr, 0, false, i, old, aw, sv, it, r, z, m⟩, 0, s, _, _, _, PP z, by simp [Step, ← hiff], by simp [bare], stepVo rfl rfl (by k_ne) loud11 (hrun _ _ _ _ rfl rfl rfl), hs, Eff.refl _ _ _, rfl, by simp [EvW], by simp, fun h => h.1, ?_⟩
    generalize lkV es (q.nm i) = v
    clear hw hs hf hd h2 hiff hrun hlb hb hk hlt2 hp
    have hp := (KP z).st
    refine ⟨rfl, fun j8 hj8 => ?_⟩
    walk_nrm
    ((iterate 5 (refine GU.value hp _ rfl rfl (by k_ne) (fun _ => by go_simp <;> rfl) (fun _ => by simp [go_sem, *]) ?_; walk_nrm)); refine GU.ctl hp rfl (fun _ => stepG_region_end) ?_; refine GU.ctl hp rfl (fun _ => stepG_seq) ?_; refine GU.ctl hp rfl (fun _ => stepG_region) ?_; simp only [List.size_toArray, List.length_cons, List.length_nil, Nat.reduceAdd, Nat.zero_add, List.range, List.range.loop]; refine GU.value hp _ rfl rfl (by k_ne) (fun _ => by go_simp <;> rfl) (fun _ => by simp [go_sem, *]) ?_; walk_nrm; refine GU.ctl hp rfl (fun _ => stepG_region_end) ?_; refine GU.ctl hp rfl (fun _ => stepG_cond (t := false) rfl) ?_; simp only [if_true, if_false, Bool.false_eq_true, ↓reduceIte]; refine GU.ctl hp rfl (fun _ => stepG_skip) ?_; refine GU.ctl hp rfl (fun _ => stepG_seq) ?_)
    refine stopDr (ops := ops7) (KP z) rfl dag7 rfl rfl nx7 cnt7 (fun l ho hl => ⟨nx7_or l, by have := cnt7_le l; have : l.length ≤ 10 := hl; omega, ?_⟩)
    refine r7 hN j8 old aw sv r it (PP z) _ _ _ _ _ _ _ _ _ _ _ _ _ _ _ _ _ _ _ _ _ _ _ _ _ _ _ (fun k' hk' j29 j30 j31 j32 j33 j34 j35 j36 j37 => ⟨rfl, fun j9 hj9 => ?_⟩) l hl j8 (Nat.le_refl _) false false false false false false false false false 0 (PP z) (KP z) (AP z) (fun _ h => h) (by simp) ho undef undef undef undef undef undef undef undef undef (by simp) (by simp) (by simp) (by simp) (by simp) (by simp) (by simp) (by simp) (by simp) (by simp) (by simp) (by simp) (by simp) (by simp) (by simp)
    simp (config := { decide := true }) only [REST7, tailFrom, firstId, body11, Try.f11, Option.getD_some, reduceIte, Option.some.injEq, Nat.reduceEqDiff, reduceCtorEq]
    (refine GU.ctl hp rfl (fun _ => stepG_region_end) ?_; refine GU.ctl hp rfl (fun _ => stepG_seq) ?_; refine GU.ctl hp rfl (fun _ => stepG_region) ?_; simp only [List.size_toArray, List.length_cons, List.length_nil, Nat.reduceAdd, Nat.zero_add, List.range, List.range.loop]; refine GU.value hp _ rfl rfl (by k_ne) (fun _ => by go_simp <;> rfl) (fun _ => by simp [go_sem, *]) ?_; walk_nrm; refine GU.ctl hp rfl (fun _ => stepG_region_end) ?_; refine GU.ctl hp rfl (fun _ => stepG_ret') ?_)
    exact (firstTail (KP z) hB k cN hcN true (next z true) old aw sv it m _ rfl _).2 j9 (by omega)
  · rw [hlb] at hiff hrun
    refine ⟨⟨.ur, 0, false, i, old, aw, sv, it, false, z, m⟩, 0, s, _, _, _, PP z, by simp [Step, ← hiff], by simp [bare], stepVo rfl rfl (by k_ne) loud11 (hrun _ _ _ _ rfl rfl rfl), hs, Eff.refl _ _ _, rfl, by simp [EvW], by simp, fun h => h.1, ?_⟩
    generalize lkV es (q.nm i) = v
    clear hw hs hf hd h2 hiff hrun hlb hb hk hlt2 hp
    have hp := (KP z).st
    refine ⟨rfl, fun j8 hj8 => ?_⟩
    walk_nrm
    ((iterate 5 (refine GU.value hp _ rfl rfl (by k_ne) (fun _ => by go_simp <;> rfl) (fun _ => by simp [go_sem, *]) ?_; walk_nrm)); refine GU.ctl hp rfl (fun _ => stepG_region_end) ?_; refine GU.ctl hp rfl (fun _ => stepG_seq) ?_; refine GU.ctl hp rfl (fun _ => stepG_region) ?_; simp only [List.size_toArray, List.length_cons, List.length_nil, Nat.reduceAdd, Nat.zero_add, List.range, List.range.loop]; refine GU.value hp _ rfl rfl (by k_ne) (fun _ => by go_simp <;> rfl) (fun _ => by simp [go_sem, *]) ?_; walk_nrm; refine GU.ctl hp rfl (fun _ => stepG_region_end) ?_; refine GU.ctl hp rfl (fun _ => stepG_cond (t := true) rfl) ?_; simp only [if_true, if_false, Bool.false_eq_true, ↓reduceIte]; refine GU.ctl hp rfl (fun _ => stepG_seq) ?_; refine GU.ctl hp rfl (fun _ => stepG_region) ?_; simp only [List.size_toArray, List.length_cons, List.length_nil, Nat.reduceAdd, Nat.zero_add, List.range, List.range.loop]; refine GU.value hp _ rfl rfl (by k_ne) (fun _ => by go_simp <;> rfl) (fun _ => by simp [go_sem, *]) ?_; walk_nrm; refine GU.ctl hp rfl (fun _ => stepG_region_end) ?_; refine GU.ctl hp rfl (fun _ => stepG_ret') ?_)
    exact (firstTail (KP z) hB k cN hcN false (next z false) old aw sv it m _ rfl _).2 j8 (by omega)
end
end Go.Proofs.Ytnlopklbbajlbaa.Sw
