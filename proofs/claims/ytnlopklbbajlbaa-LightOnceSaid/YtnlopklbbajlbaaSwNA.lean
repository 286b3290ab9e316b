/- LightOnce: the worker (printed by tools/genna.py). -/
import Derived.Test.YtnlopklbbajlbaaSwKZ
set_option linter.unusedVariables false
set_option linter.unusedSimpArgs false
set_option maxRecDepth 100000
namespace Go.Proofs.Ytnlopklbbajlbaa.Sw
open Go Go.Conc Go.ConcN Go.RowKit
open Go.ConcN (upd upd_same upd_ne)
open Go.ConcR (DC0 stA smA)
noncomputable def body9 : Code := Try.f9.body.getD .skip
noncomputable def ops4 : Array Oper := (regionOf 4 body9).getD #[]
theorem dag4 : Dag ops4 := dag_of (by kernel_rfl)
theorem loud9 : (Try.prog.funcs[(baseD 9).fn]?).any (·.norace) = false := by kernel_rfl
/-- Behind region 4, in the loop's text. -/
noncomputable def REST4 : Code := (tailFrom 3 body9).getD .skip
noncomputable def LL9 : Code := (findLoop body9).getD .skip

theorem add_mk (b o k : Nat) : (⟨b, o, none⟩ : Addr).add k = ⟨b, o + k, none⟩ := by
  unfold Addr.add
  split
  · simp_all
  · rfl
theorem idx_run (t : TypeId) (ht : t = 23 ∨ t = 26 ∨ t = 50) {a : Act} {o : Oper} {w : World} {x y : Operand} {b of l cp k : Nat} (hk : k < l) (hop : o.op = .indexAddr t x y) (hx : a.eval x = .slice (some ⟨b, of, none⟩) l cp) (hy : a.eval y = .int .i64 k) :
    (execOp a.eval o).run Try.prog w = .ok (.value (.pointer (some ⟨b, of + k, none⟩))) w ∧ (execOp a.eval o).events Try.prog w #[] = #[] := by
  have e := add_mk b of k
  have h1 : (0 : Int) ≤ k ∧ (k : Int) < l := by omega
  constructor
  · unfold execOp
    simp only [hop, hx, hy]
    rcases ht with rfl | rfl | rfl <;> simp [go_sem, h1, hk, e]
  · unfold execOp
    simp only [hop, hx, hy]
    rcases ht with rfl | rfl | rfl  <;> simp [go_sem, h1, hk, e]

/-! ### what a worker reads -/
/-- The starter's variables, by their blocks; the list of places, the names. -/
structure Vw where
  bAt : Nat
  bK : Nat
  bA : Nat
  bN : Nat
  bF : Nat
  at_ : Option Addr
  atc : Nat
  ab : Nat
  ao : Nat
  nm_ : Option Addr
  nl : Nat
  nc : Nat
  nb : Nat
  no : Nat
  ix : Nat → Nat
/-- A block that nobody turns and all may read. -/
structure RoS (c : TC) (b : Nat) : Prop where
  lt : b < c.Low
  w : b ≠ c.Wg
  a : b ≠ c.A
  f : b ≠ c.F
  m : c.M0 ≠ some b
  s : ∀ x : Addr, x.block = b → ¬ c.Shun (.cell x)
theorem RoS.kl {c : TC} {b : Nat} (h : RoS c b) : Kl c b := ⟨h.lt, h.a, h.w, h.f, h.m⟩
theorem RoS.ro {c : TC} {b : Nat} (h : RoS c b) (o : Nat) : RoL c (.cell ⟨b, o, none⟩) := ⟨_, rfl, h.lt, h.w, h.a, h.f, h.s _ rfl⟩
structure Vok (c : TC) (q : AP) (V : Vw) : Prop where
  at' : RoS c V.bAt
  k : RoS c V.bK
  a : RoS c V.bA
  n : RoS c V.bN
  f : RoS c V.bF
  hat : 0 < c.n → V.at_ = some ⟨V.ab, V.ao, none⟩ ∧ RoS c V.ab
  hnm : 0 < c.n → V.nm_ = some ⟨V.nb, V.no, none⟩ ∧ RoS c V.nb
  hix : ∀ k, k < c.n → V.ix k < V.nl
  nlt : c.n < 1073741824
  qn : q.n = c.n
  qW : q.W = c.W
  W0 : 0 < c.W
  W16 : c.W ≤ 16
/-- WHAT STANDS THERE. -/
structure Wn (c : TC) (q : AP) (V : Vw) (w : World) : Prop where
  at' : w.cell? ⟨V.bAt, 0, none⟩ = some (.slice V.at_ c.n V.atc)
  k : w.cell? ⟨V.bK, 0, none⟩ = some (.int .i64 (c.W : Int))
  a : w.cell? ⟨V.bA, 0, none⟩ = some (.pointer (some ⟨c.A, 0, none⟩))
  n : w.cell? ⟨V.bN, 0, none⟩ = some (.slice V.nm_ V.nl V.nc)
  f : w.cell? ⟨V.bF, 0, none⟩ = some (.slice (some ⟨c.F, 0, none⟩) c.n c.n)
  ix : ∀ k, k < c.n → w.cell? ⟨V.ab, V.ao + k, none⟩ = some (.int .i64 (V.ix k : Int))
  nm : ∀ k, k < c.n → w.cell? ⟨V.nb, V.no + V.ix k, none⟩ = some (.string (q.nm k))
  live : ∃ s, ShAt 46 55 4 c w s
theorem cell_of {w w₁ : World} {a : Addr} (h : w₁.heap[a.block]? = w.heap[a.block]?) : w₁.cell? a = w.cell? a := by
  unfold World.cell?; rw [h]
section
variable {c : TC} {q : AP} {V : Vw} {w w₁ : World} {o : Option Nat}
theorem Wn.rely (H : Vok c q V) (h : Wn c q V w) (r : RK 46 55 4 c o w w₁) : Wn c q V w₁ := by
  have k : ∀ {b n : Nat}, RoS c b → w₁.cell? ⟨b, n, none⟩ = w.cell? ⟨b, n, none⟩ := fun hb => cell_of (r.low _ hb.kl)
  obtain ⟨h1, h2, h3, h4, h5, h6, h7, h8⟩ := h
  exact ⟨by rw [k H.at']; exact h1, by rw [k H.k]; exact h2, by rw [k H.a]; exact h3, by rw [k H.n]; exact h4, by rw [k H.f]; exact h5, fun i hi => by rw [k (H.hat (by omega)).2]; exact h6 i hi, fun i hi => by rw [k (H.hnm (by omega)).2]; exact h7 i hi, r.live h8⟩
/-- What is known while the own block z holds v. -/
def PW (c : TC) (q : AP) (V : Vw) (v : Value) (t : TypeId) (z : Nat) (w : World) : Prop := Wn c q V w ∧ c.Low ≤ z ∧ w.heap[z]? = some (.cells #[v] t)
theorem pw_kn (H : Vok c q V) (v : Value) (t : TypeId) (z : Nat) : KN c z (PW c q V v t z) :=
  ⟨fun w w₁ h r => ⟨h.1.rely H r, h.2.1, by rw [r.box z rfl]; exact h.2.2⟩, fun w h => ⟨h.2.1, _, _, _, h.2.2⟩, fun w h => h.1.live⟩
theorem pw_cell {v : Value} {t : TypeId} {z : Nat} (h : PW c q V v t z w) : w.cell? ⟨z, 0, none⟩ = some v := by simp [World.cell?, h.2.2]
/-- An answer is written. -/
theorem ShAt.setFr {s : Sh} (h : ShAt 46 55 4 c w s) {k : Nat} (hk : k < c.n) (v : Bool) : ShAt 46 55 4 c (w.setCell ⟨c.F, k, none⟩ (.bool v)) { s with fr := upd s.fr k v } := by
  have A := aside_setCell w ⟨c.F, k, none⟩ (.bool v)
  obtain ⟨cs, f1, f2, f3⟩ := h.f
  refine ⟨?_, ?_, ?_, fun x => ?_, by rw [A.size]; exact h.low, h.mo, h.z⟩
  · rw [A.block _ (by show c.A ≠ c.F; exact c.aF)]; exact h.a
  · rw [A.block _ (by show c.Wg ≠ c.F; exact c.fW.symm)]; exact h.g
  · have := heap_set (a := ⟨c.F, k, none⟩) (v := .bool v) f1 rfl
    refine ⟨_, this, by simpa using f2, fun i hi => ?_⟩
    by_cases e : i = k
    · subst e; simp [upd_same, f2, hi]
    · show _ = some (Value.bool (upd s.fr k v i))
      rw [upd_ne _ _ e]
      have := f3 i hi
      simp only [Array.getElem?_setIfInBounds_ne (Ne.symm e)]
      exact this
  · obtain ⟨h1, es, ck, h2, h3⟩ := h.m x
    exact ⟨by rw [A.size]; exact h1, es, ck, by rw [A.block _ (by show s.mp ≠ c.F; exact (mp_ne h x).2.2)]; exact h2, h3⟩
theorem ShAt.cFr {s : Sh} (h : ShAt 46 55 4 c w s) {k : Nat} (hk : k < c.n) : w.cell? ⟨c.F, k, none⟩ = some (.bool (s.fr k)) := by
  obtain ⟨cs, f1, f2, f3⟩ := h.f
  simp [World.cell?, f1, f3 k hk]
theorem ShAt.thF {s : Sh} (h : ShAt 46 55 4 c w s) (k : Nat) : w.frozen? ⟨c.F, k, none⟩ = false := by
  obtain ⟨cs, f1, _⟩ := h.f
  simp [World.frozen?, f1]
end

/-- The quiet loads ahead of the next stop. -/
def cnt4 : List Nat → Nat
  | [] => 0
  | a :: l => if a = 10 ∨ a = 12 then 0 else if a = 0 ∨ a = 2 ∨ a = 3 ∨ a = 4 ∨ a = 7 ∨ a = 9 then cnt4 l + 1 else cnt4 l
theorem cnt4_le : ∀ l : List Nat, cnt4 l ≤ l.length
  | [] => Nat.le_refl _
  | a :: l => by
    have := cnt4_le l
    simp only [cnt4, List.length_cons]
    split
    · omega
    · split <;> omega
def pc4 (b : Bool) : Pc := if b then .wf else .bx
theorem pc4_quit (b : Bool) : pc4 b ≠ .quit := by cases b <;> simp [pc4]
noncomputable def bot : Frame := { (default : Frame) with fn := Try.prog.funcs.size, defers := [], mode := .panicking [goexitEntry] }

/-- .. behind a new block. -/
theorem Wn.grow {c : TC} {q : AP} {V : Vw} {w : World} {s : Sh} (h : Wn c q V w) (hs : ShAt 46 55 4 c w s) (H : Vok c q V) (o : Obj) : Wn c q V (w.alloc o) := by
  have k : ∀ {b n : Nat}, RoS c b → (w.alloc o).cell? ⟨b, n, none⟩ = w.cell? ⟨b, n, none⟩ := fun {b n} hb => cell_of (by
    show (w.heap.push o)[b]? = w.heap[b]?
    rw [Array.getElem?_push, if_neg (by have := hb.lt; have := hs.low; omega)])
  obtain ⟨h1, h2, h3, h4, h5, h6, h7, h8⟩ := h
  exact ⟨by rw [k H.at']; exact h1, by rw [k H.k]; exact h2, by rw [k H.a]; exact h3, by rw [k H.n]; exact h4, by rw [k H.f]; exact h5, fun i hi => by rw [k (H.hat (by omega)).2]; exact h6 i hi, fun i hi => by rw [k (H.hnm (by omega)).2]; exact h7 i hi, ⟨s, hs.alloc o⟩⟩
section
variable {c : TC} {q : AP} {V : Vw} {bw i : Nat}
set_option maxHeartbeats 16000000 in
/-- ████ ONE NAME, in every order. ████ -/
theorem r4 (H : Vok c q V) (hB : q.B < 60) (hN : q.S0.length + q.n + q.W < 1152921504606846976) (k : Nat) (hi : i < c.n) (t8 t9 t10 t11 t12 t13 t14 t15 : Value) (ds : List Deferred)
    (next : ∀ (k' : Nat), k' < k → ∀ (bx : Nat) (p : World → Prop), KN c bx p → (∀ w, p w → Wn c q V w) → ∀ (bb : Bool) (old : MuW) (aw sv r : Bool) (it m : Nat) (j16 j17 j18 j19 j20 j21 j22 j23 j24 j25 j26 j27 : Value), WU c q bx p k' ⟨if i + c.W < c.n then .bx else .wr, if i + c.W < c.n then 16 else 2, bb, i + c.W, old, aw, sv, it, r, bx, m⟩ (G ((baseD 9).at ⟨#[.pointer (some ⟨c.Wg, 0, none⟩), .pointer (some ⟨bw, 0, none⟩), .pointer (some ⟨V.bAt, 0, none⟩), .pointer (some ⟨V.bK, 0, none⟩), .pointer (some ⟨V.bA, 0, none⟩), .pointer (some ⟨V.bN, 0, none⟩), .pointer (some ⟨V.bF, 0, none⟩), .int .i64 (i : Int), t8, t9, t10, t11, t12, t13, t14, t15, j16, j17, j18, j19, j20, j21, j22, j23, j24, j25, j26, j27], ds⟩ [.inRegion ops4 [], .inBlock 1, .code REST4, .inLoop LL9, .inBlock 0]) [bot])) :
    ∀ (l : List Nat), l.length ≤ 13 → ∀ (k' : Nat), k' ≤ k → ∀ (b0 b1 b2 b3 b4 b5 b6 b7 b8 b9 b10 b11 : Bool) (bx : Nat) (p : World → Prop), KN c bx p → (∀ w, p w → Wn c q V w) → Ord ops4 #[b0, b1, b2, b3, b4, b5, b6, b7, b8, b9, b10, b11, false] l → ∀ (bb : Bool) (old : MuW) (aw sv r : Bool) (it m : Nat) (j16 j17 j18 j19 j20 j21 j22 j23 j24 j25 j26 j27 : Value), (b6 = true → b4 = true) → (b6 = true → b5 = true) → (b7 = true → b6 = true) → (b8 = true → b3 = true) → (b8 = true → b7 = true) → (b9 = true → b8 = true) → (b10 = true → b2 = true) → (b10 = true → b9 = true) → (b11 = true → b0 = true) → (b11 = true → b1 = true) → (b11 = true → b2 = true) → (b11 = true → b3 = true) → (b11 = true → b4 = true) → (b11 = true → b5 = true) → (b11 = true → b6 = true) → (b11 = true → b7 = true) → (b11 = true → b8 = true) → (b11 = true → b9 = true) → (b11 = true → b10 = true) → (b0 = true → j16 = .slice (some ⟨c.F, 0, none⟩) c.n c.n) → (b1 = true → j17 = .int .i64 (i : Int)) → (b2 = true → j18 = .pointer (some ⟨c.A, 0, none⟩)) → (b3 = true → j19 = .slice V.nm_ V.nl V.nc) → (b4 = true → j20 = .slice V.at_ c.n V.atc) → (b5 = true → j21 = .int .i64 (i : Int)) → (b6 = true → j22 = .pointer (some ⟨V.ab, V.ao + i, none⟩)) → (b7 = true → j23 = .int .i64 (V.ix i : Int)) → (b8 = true → j24 = .pointer (some ⟨V.nb, V.no + V.ix i, none⟩)) → (b9 = true → j25 = .string (q.nm i)) → (b10 = true → j26 = .bool r) → (b11 = true → j27 = .pointer (some ⟨c.F, 0 + i, none⟩)) →
      WU c q bx p k' ⟨pc4 b10, cnt4 l, bb, i, old, aw, sv, it, r, bx, m⟩ (G ((baseD 9).at ⟨#[.pointer (some ⟨c.Wg, 0, none⟩), .pointer (some ⟨bw, 0, none⟩), .pointer (some ⟨V.bAt, 0, none⟩), .pointer (some ⟨V.bK, 0, none⟩), .pointer (some ⟨V.bA, 0, none⟩), .pointer (some ⟨V.bN, 0, none⟩), .pointer (some ⟨V.bF, 0, none⟩), .int .i64 (i : Int), t8, t9, t10, t11, t12, t13, t14, t15, j16, j17, j18, j19, j20, j21, j22, j23, j24, j25, j26, j27], ds⟩ [.inRegion ops4 l, .inBlock 1, .code REST4, .inLoop LL9, .inBlock 0]) [bot]) := by
  obtain ⟨hat1, hat2⟩ := H.hat (by omega)
  obtain ⟨hnm1, hnm2⟩ := H.hnm (by omega)
  have hix := H.hix i hi
  intro l
  induction l with
  | nil =>
    intro hlen k' hk' b0 b1 b2 b3 b4 b5 b6 b7 b8 b9 b10 b11 bx p K hWn ho
    have := ho 12 (by decide +kernel)
    simp at this
  | cons x l ih =>
    intro hlen k' hk' b0 b1 b2 b3 b4 b5 b6 b7 b8 b9 b10 b11 bx p K hWn ho bb old aw sv r it m j16 j17 j18 j19 j20 j21 j22 j23 j24 j25 j26 j27 i6_4 i6_5 i7_6 i8_3 i8_7 i9_8 i10_2 i10_9 i11_0 i11_1 i11_2 i11_3 i11_4 i11_5 i11_6 i11_7 i11_8 i11_9 i11_10 h0 h1 h2 h3 h4 h5 h6 h7 h8 h9 h10 h11
    have hp := K.st
    have hlt : x < 13 := ho.lt
    have hlen : l.length ≤ 12 := by simp only [List.length_cons] at hlen; omega
    obtain ⟨hok, ho⟩ := ho
    obtain rfl | rfl | rfl | rfl | rfl | rfl | rfl | rfl | rfl | rfl | rfl | rfl | rfl : x = 0 ∨ x = 1 ∨ x = 2 ∨ x = 3 ∨ x = 4 ∨ x = 5 ∨ x = 6 ∨ x = 7 ∨ x = 8 ∨ x = 9 ∨ x = 10 ∨ x = 11 ∨ x = 12 := by omega
    · simp [okAt, ops4, regionOf, body9, Try.f9, Region.binds] at hok
      subst hok
      have ih2 := ih (by omega) k' hk' true b1 b2 b3 b4 b5 b6 b7 b8 b9 b10 b11 bx p K hWn ho bb old aw sv r it m (.slice (some ⟨c.F, 0, none⟩) c.n c.n) j17 j18 j19 j20 j21 j22 j23 j24 j25 j26 j27 i6_4 i6_5 i7_6 i8_3 i8_7 i9_8 i10_2 i10_9 (fun _ => rfl) i11_1 i11_2 i11_3 i11_4 i11_5 i11_6 i11_7 i11_8 i11_9 i11_10 (fun _ => rfl) h1 h2 h3 h4 h5 h6 h7 h8 h9 h10 h11
      simp (config := { decide := true }) only [ops4, regionOf, body9, Try.f9, Option.getD_some, reduceIte, Option.some.injEq, Nat.reduceEqDiff, reduceCtorEq] at ih2 ⊢
      refine WU.ld K rfl (m := cnt4 l) 50 (by simp) rfl (pc4_quit _) rfl rfl (by k_ne) rfl rfl loud9 (fun w hw => (hWn w hw).f) (.inl (H.f.ro 0)) ?_
      exact ih2
    · simp [okAt, ops4, regionOf, body9, Try.f9, Region.binds] at hok
      subst hok
      have ih2 := ih (by omega) k' hk' b0 true b2 b3 b4 b5 b6 b7 b8 b9 b10 b11 bx p K hWn ho bb old aw sv r it m j16 (.int .i64 (i : Int)) j18 j19 j20 j21 j22 j23 j24 j25 j26 j27 i6_4 i6_5 i7_6 i8_3 i8_7 i9_8 i10_2 i10_9 i11_0 (fun _ => rfl) i11_2 i11_3 i11_4 i11_5 i11_6 i11_7 i11_8 i11_9 i11_10 h0 (fun _ => rfl) h2 h3 h4 h5 h6 h7 h8 h9 h10 h11
      simp (config := { decide := true }) only [ops4, regionOf, body9, Try.f9, Option.getD_some, reduceIte, Option.some.injEq, Nat.reduceEqDiff, reduceCtorEq] at ih2 ⊢
      refine WU.val K _ rfl rfl (by k_ne) (fun _ => by go_simp <;> rfl) (fun _ => by simp [go_sem]) ?_
      exact ih2
    · simp [okAt, ops4, regionOf, body9, Try.f9, Region.binds] at hok
      subst hok
      have ih2 := ih (by omega) k' hk' b0 b1 true b3 b4 b5 b6 b7 b8 b9 b10 b11 bx p K hWn ho bb old aw sv r it m j16 j17 (.pointer (some ⟨c.A, 0, none⟩)) j19 j20 j21 j22 j23 j24 j25 j26 j27 i6_4 i6_5 i7_6 i8_3 i8_7 i9_8 (fun _ => rfl) i10_9 i11_0 i11_1 (fun _ => rfl) i11_3 i11_4 i11_5 i11_6 i11_7 i11_8 i11_9 i11_10 h0 h1 (fun _ => rfl) h3 h4 h5 h6 h7 h8 h9 h10 h11
      simp (config := { decide := true }) only [ops4, regionOf, body9, Try.f9, Option.getD_some, reduceIte, Option.some.injEq, Nat.reduceEqDiff, reduceCtorEq] at ih2 ⊢
      refine WU.ld K rfl (m := cnt4 l) 24 (by simp) rfl (pc4_quit _) rfl rfl (by k_ne) rfl rfl loud9 (fun w hw => (hWn w hw).a) (.inl (H.a.ro 0)) ?_
      exact ih2
    · simp [okAt, ops4, regionOf, body9, Try.f9, Region.binds] at hok
      subst hok
      have ih2 := ih (by omega) k' hk' b0 b1 b2 true b4 b5 b6 b7 b8 b9 b10 b11 bx p K hWn ho bb old aw sv r it m j16 j17 j18 (.slice V.nm_ V.nl V.nc) j20 j21 j22 j23 j24 j25 j26 j27 i6_4 i6_5 i7_6 (fun _ => rfl) i8_7 i9_8 i10_2 i10_9 i11_0 i11_1 i11_2 (fun _ => rfl) i11_4 i11_5 i11_6 i11_7 i11_8 i11_9 i11_10 h0 h1 h2 (fun _ => rfl) h4 h5 h6 h7 h8 h9 h10 h11
      simp (config := { decide := true }) only [ops4, regionOf, body9, Try.f9, Option.getD_some, reduceIte, Option.some.injEq, Nat.reduceEqDiff, reduceCtorEq] at ih2 ⊢
      refine WU.ld K rfl (m := cnt4 l) 26 (by simp) rfl (pc4_quit _) rfl rfl (by k_ne) rfl rfl loud9 (fun w hw => (hWn w hw).n) (.inl (H.n.ro 0)) ?_
      exact ih2
    · simp [okAt, ops4, regionOf, body9, Try.f9, Region.binds] at hok
      subst hok
      have ih2 := ih (by omega) k' hk' b0 b1 b2 b3 true b5 b6 b7 b8 b9 b10 b11 bx p K hWn ho bb old aw sv r it m j16 j17 j18 j19 (.slice V.at_ c.n V.atc) j21 j22 j23 j24 j25 j26 j27 (fun _ => rfl) i6_5 i7_6 i8_3 i8_7 i9_8 i10_2 i10_9 i11_0 i11_1 i11_2 i11_3 (fun _ => rfl) i11_5 i11_6 i11_7 i11_8 i11_9 i11_10 h0 h1 h2 h3 (fun _ => rfl) h5 h6 h7 h8 h9 h10 h11
      simp (config := { decide := true }) only [ops4, regionOf, body9, Try.f9, Option.getD_some, reduceIte, Option.some.injEq, Nat.reduceEqDiff, reduceCtorEq] at ih2 ⊢
      refine WU.ld K rfl (m := cnt4 l) 23 (by simp) rfl (pc4_quit _) rfl rfl (by k_ne) rfl rfl loud9 (fun w hw => (hWn w hw).at') (.inl (H.at'.ro 0)) ?_
      exact ih2
    · simp [okAt, ops4, regionOf, body9, Try.f9, Region.binds] at hok
      subst hok
      have ih2 := ih (by omega) k' hk' b0 b1 b2 b3 b4 true b6 b7 b8 b9 b10 b11 bx p K hWn ho bb old aw sv r it m j16 j17 j18 j19 j20 (.int .i64 (i : Int)) j22 j23 j24 j25 j26 j27 i6_4 (fun _ => rfl) i7_6 i8_3 i8_7 i9_8 i10_2 i10_9 i11_0 i11_1 i11_2 i11_3 i11_4 (fun _ => rfl) i11_6 i11_7 i11_8 i11_9 i11_10 h0 h1 h2 h3 h4 (fun _ => rfl) h6 h7 h8 h9 h10 h11
      simp (config := { decide := true }) only [ops4, regionOf, body9, Try.f9, Option.getD_some, reduceIte, Option.some.injEq, Nat.reduceEqDiff, reduceCtorEq] at ih2 ⊢
      refine WU.val K _ rfl rfl (by k_ne) (fun _ => by go_simp <;> rfl) (fun _ => by simp [go_sem]) ?_
      exact ih2
    · simp [okAt, ops4, regionOf, body9, Try.f9, Region.binds] at hok
      obtain ⟨rfl, rfl, rfl⟩ := hok
      obtain rfl := h4 rfl
      obtain rfl := h5 rfl
      have ih2 := ih (by omega) k' hk' b0 b1 b2 b3 true true true b7 b8 b9 b10 b11 bx p K hWn ho bb old aw sv r it m j16 j17 j18 j19 (.slice V.at_ c.n V.atc) (.int .i64 (i : Int)) (.pointer (some ⟨V.ab, V.ao + i, none⟩)) j23 j24 j25 j26 j27 (fun _ => rfl) (fun _ => rfl) (fun _ => rfl) i8_3 i8_7 i9_8 i10_2 i10_9 i11_0 i11_1 i11_2 i11_3 (fun _ => rfl) (fun _ => rfl) (fun _ => rfl) i11_7 i11_8 i11_9 i11_10 h0 h1 h2 h3 (fun _ => rfl) (fun _ => rfl) (fun _ => rfl) h7 h8 h9 h10 h11
      simp (config := { decide := true }) only [ops4, regionOf, body9, Try.f9, Option.getD_some, reduceIte, Option.some.injEq, Nat.reduceEqDiff, reduceCtorEq] at ih2 ⊢
      refine WU.val K (.pointer (some ⟨V.ab, V.ao + i, none⟩)) rfl rfl (by k_ne) (fun w => (idx_run (w := w) 23 (by simp) (cp := V.atc) (b := V.ab) (of := V.ao) hi rfl (by simp [Act.eval, hat1]) rfl).1) (fun w => (idx_run (w := w) 23 (by simp) (cp := V.atc) (b := V.ab) (of := V.ao) hi rfl (by simp [Act.eval, hat1]) rfl).2) ?_
      exact ih2
    · simp [okAt, ops4, regionOf, body9, Try.f9, Region.binds] at hok
      obtain ⟨rfl, rfl⟩ := hok
      obtain rfl := h6 rfl
      have ih2 := ih (by omega) k' hk' b0 b1 b2 b3 b4 b5 true true b8 b9 b10 b11 bx p K hWn ho bb old aw sv r it m j16 j17 j18 j19 j20 j21 (.pointer (some ⟨V.ab, V.ao + i, none⟩)) (.int .i64 (V.ix i : Int)) j24 j25 j26 j27 i6_4 i6_5 (fun _ => rfl) i8_3 (fun _ => rfl) i9_8 i10_2 i10_9 i11_0 i11_1 i11_2 i11_3 i11_4 i11_5 (fun _ => rfl) (fun _ => rfl) i11_8 i11_9 i11_10 h0 h1 h2 h3 h4 h5 (fun _ => rfl) (fun _ => rfl) h8 h9 h10 h11
      simp (config := { decide := true }) only [ops4, regionOf, body9, Try.f9, Option.getD_some, reduceIte, Option.some.injEq, Nat.reduceEqDiff, reduceCtorEq] at ih2 ⊢
      refine WU.ld K rfl (m := cnt4 l) 3 (by simp) rfl (pc4_quit _) rfl rfl (by k_ne) rfl rfl loud9 (fun w hw => (hWn w hw).ix i hi) (.inl (hat2.ro _)) ?_
      exact ih2
    · simp [okAt, ops4, regionOf, body9, Try.f9, Region.binds] at hok
      obtain ⟨rfl, rfl, rfl⟩ := hok
      obtain rfl := h3 rfl
      obtain rfl := h7 rfl
      have ih2 := ih (by omega) k' hk' b0 b1 b2 true b4 b5 b6 true true b9 b10 b11 bx p K hWn ho bb old aw sv r it m j16 j17 j18 (.slice V.nm_ V.nl V.nc) j20 j21 j22 (.int .i64 (V.ix i : Int)) (.pointer (some ⟨V.nb, V.no + V.ix i, none⟩)) j25 j26 j27 i6_4 i6_5 i7_6 (fun _ => rfl) (fun _ => rfl) (fun _ => rfl) i10_2 i10_9 i11_0 i11_1 i11_2 (fun _ => rfl) i11_4 i11_5 i11_6 (fun _ => rfl) (fun _ => rfl) i11_9 i11_10 h0 h1 h2 (fun _ => rfl) h4 h5 h6 (fun _ => rfl) (fun _ => rfl) h9 h10 h11
      simp (config := { decide := true }) only [ops4, regionOf, body9, Try.f9, Option.getD_some, reduceIte, Option.some.injEq, Nat.reduceEqDiff, reduceCtorEq] at ih2 ⊢
      refine WU.val K (.pointer (some ⟨V.nb, V.no + V.ix i, none⟩)) rfl rfl (by k_ne) (fun w => (idx_run (w := w) 26 (by simp) (cp := V.nc) (b := V.nb) (of := V.no) hix rfl (by simp [Act.eval, hnm1]) rfl).1) (fun w => (idx_run (w := w) 26 (by simp) (cp := V.nc) (b := V.nb) (of := V.no) hix rfl (by simp [Act.eval, hnm1]) rfl).2) ?_
      exact ih2
    · simp [okAt, ops4, regionOf, body9, Try.f9, Region.binds] at hok
      obtain ⟨rfl, rfl⟩ := hok
      obtain rfl := h8 rfl
      have ih2 := ih (by omega) k' hk' b0 b1 b2 b3 b4 b5 b6 b7 true true b10 b11 bx p K hWn ho bb old aw sv r it m j16 j17 j18 j19 j20 j21 j22 j23 (.pointer (some ⟨V.nb, V.no + V.ix i, none⟩)) (.string (q.nm i)) j26 j27 i6_4 i6_5 i7_6 i8_3 i8_7 (fun _ => rfl) i10_2 (fun _ => rfl) i11_0 i11_1 i11_2 i11_3 i11_4 i11_5 i11_6 i11_7 (fun _ => rfl) (fun _ => rfl) i11_10 h0 h1 h2 h3 h4 h5 h6 h7 (fun _ => rfl) (fun _ => rfl) h10 h11
      simp (config := { decide := true }) only [ops4, regionOf, body9, Try.f9, Option.getD_some, reduceIte, Option.some.injEq, Nat.reduceEqDiff, reduceCtorEq] at ih2 ⊢
      refine WU.ld K rfl (m := cnt4 l) 9 (by simp) rfl (pc4_quit _) rfl rfl (by k_ne) rfl rfl loud9 (fun w hw => (hWn w hw).nm i hi) (.inl (hnm2.ro _)) ?_
      exact ih2
    · simp [okAt, ops4, regionOf, body9, Try.f9, Region.binds] at hok
      obtain ⟨rfl, rfl, rfl⟩ := hok
      obtain rfl := h2 rfl
      obtain rfl := h9 rfl
      refine ⟨rfl, fun j hj => ?_⟩
      have ih2 := fun bx p K hWn bb old aw sv r it m => ih (by omega) k' hk' b0 b1 true b3 b4 b5 b6 b7 b8 true true b11 bx p K hWn ho bb old aw sv r it m j16 j17 (.pointer (some ⟨c.A, 0, none⟩)) j19 j20 j21 j22 j23 j24 (.string (q.nm i)) (.bool r) j27 i6_4 i6_5 i7_6 i8_3 i8_7 i9_8 (fun _ => rfl) (fun _ => rfl) i11_0 i11_1 (fun _ => rfl) i11_3 i11_4 i11_5 i11_6 i11_7 i11_8 (fun _ => rfl) (fun _ => rfl) h0 h1 (fun _ => rfl) h3 h4 h5 h6 h7 h8 (fun _ => rfl) (fun _ => rfl) h11
      simp (config := { decide := true }) only [ops4, regionOf, body9, Try.f9, Option.getD_some, reduceIte, Option.some.injEq, Nat.reduceEqDiff, reduceCtorEq] at ih2 ⊢
      (refine GU.call hp rfl rfl (by k_ne) rfl Try.func11 nm11 rfl ?_; walk_nrmf Try.f11)
      refine (firstL (r := r) (b := bb) (m := m) K hB hN (PP := PW c q V (.pointer (some ⟨c.A, 0, none⟩)) 24) (fun z => pw_kn H _ _ z) (fun z w h => pw_cell h) (fun w s hw hs => ?_) k' (cnt4 l) (by have := cnt4_le l; omega) (fun z r old aw sv it m => ?_) old aw sv it).2 j hj
      · have h0 := hWn w hw
        exact ⟨h0.grow hs H _, hs.low, by show (w.heap.push _)[w.heap.size]? = _; simp⟩
      · exact ih2 z _ (pw_kn H _ _ z) (fun w h => h.1) false old aw sv r it m
    · simp [okAt, ops4, regionOf, body9, Try.f9, Region.binds] at hok
      obtain ⟨rfl, rfl, rfl, -, -, rfl, rfl, rfl, rfl, rfl, rfl, rfl, rfl, rfl⟩ := hok
      obtain rfl := h0 rfl
      obtain rfl := h1 rfl
      obtain rfl := h2 rfl
      obtain rfl := h3 rfl
      obtain rfl := h4 rfl
      obtain rfl := h5 rfl
      obtain rfl := h6 rfl
      obtain rfl := h7 rfl
      obtain rfl := h8 rfl
      obtain rfl := h9 rfl
      obtain rfl := h10 rfl
      have ih2 := ih (by omega) k' hk' true true true true true true true true true true true true bx p K hWn ho bb old aw sv r it m (.slice (some ⟨c.F, 0, none⟩) c.n c.n) (.int .i64 (i : Int)) (.pointer (some ⟨c.A, 0, none⟩)) (.slice V.nm_ V.nl V.nc) (.slice V.at_ c.n V.atc) (.int .i64 (i : Int)) (.pointer (some ⟨V.ab, V.ao + i, none⟩)) (.int .i64 (V.ix i : Int)) (.pointer (some ⟨V.nb, V.no + V.ix i, none⟩)) (.string (q.nm i)) (.bool r) (.pointer (some ⟨c.F, 0 + i, none⟩)) (fun _ => rfl) (fun _ => rfl) (fun _ => rfl) (fun _ => rfl) (fun _ => rfl) (fun _ => rfl) (fun _ => rfl) (fun _ => rfl) (fun _ => rfl) (fun _ => rfl) (fun _ => rfl) (fun _ => rfl) (fun _ => rfl) (fun _ => rfl) (fun _ => rfl) (fun _ => rfl) (fun _ => rfl) (fun _ => rfl) (fun _ => rfl) (fun _ => rfl) (fun _ => rfl) (fun _ => rfl) (fun _ => rfl) (fun _ => rfl) (fun _ => rfl) (fun _ => rfl) (fun _ => rfl) (fun _ => rfl) (fun _ => rfl) (fun _ => rfl) (fun _ => rfl)
      simp (config := { decide := true }) only [ops4, regionOf, body9, Try.f9, Option.getD_some, reduceIte, Option.some.injEq, Nat.reduceEqDiff, reduceCtorEq] at ih2 ⊢
      refine WU.val K (.pointer (some ⟨c.F, 0 + i, none⟩)) rfl rfl (by k_ne) (fun w => (idx_run (w := w) 50 (by simp) (cp := c.n) (b := c.F) (of := 0) hi rfl rfl rfl).1) (fun w => (idx_run (w := w) 50 (by simp) (cp := c.n) (b := c.F) (of := 0) hi rfl rfl rfl).2) ?_
      exact ih2
    · simp [okAt, ops4, regionOf, body9, Try.f9, Region.binds] at hok
      obtain ⟨rfl, rfl, rfl, rfl, rfl, rfl, rfl, rfl, rfl, rfl, rfl, rfl, -⟩ := hok
      obtain rfl := h0 rfl
      obtain rfl := h1 rfl
      obtain rfl := h2 rfl
      obtain rfl := h3 rfl
      obtain rfl := h4 rfl
      obtain rfl := h5 rfl
      obtain rfl := h6 rfl
      obtain rfl := h7 rfl
      obtain rfl := h8 rfl
      obtain rfl := h9 rfl
      obtain rfl := h10 rfl
      obtain rfl := h11 rfl
      obtain rfl : l = [] := ho.nil (by decide +kernel)
      refine ⟨rfl, fun j hj => ?_⟩
      have hn := fun bb old aw sv it m => next j (by omega) bx p K hWn bb old aw sv r it m (.slice (some ⟨c.F, 0, none⟩) c.n c.n) (.int .i64 (i : Int)) (.pointer (some ⟨c.A, 0, none⟩)) (.slice V.nm_ V.nl V.nc) (.slice V.at_ c.n V.atc) (.int .i64 (i : Int)) (.pointer (some ⟨V.ab, V.ao + i, none⟩)) (.int .i64 (V.ix i : Int)) (.pointer (some ⟨V.nb, V.no + V.ix i, none⟩)) (.string (q.nm i)) (.bool r) (.pointer (some ⟨c.F, 0 + i, none⟩))
      simp (config := { decide := true }) only [ops4, regionOf, body9, Try.f9, Option.getD_some, reduceIte, Option.some.injEq, Nat.reduceEqDiff, reduceCtorEq] at hn ⊢
      -- STOP wf
      refine stopW K rfl rfl rfl (by simp [pc4]) (by simp [pc4]) (fun w s hw hs hf => ?_)
      have hcell := hs.cFr hi
      rw [← Nat.zero_add i] at hcell
      refine ⟨⟨if i + c.W < c.n then .bx else .wr, 0, bb, i + c.W, old, aw, sv, it, r, bx, m⟩, if i + c.W < c.n then 16 else 2, { s with fr := upd s.fr i r }, _, _, _, ?_, ?_, stepN1 rfl rfl (by k_ne) loud9 (st_bool (ad := ⟨c.F, 0 + i, none⟩) (v := r) rfl rfl rfl hcell (hs.thF _)), ?_, Eff.set _ _ _ _ _ (.inr (.inr rfl)), (aside_setCell _ _ _).size, ?_, ?_, ?_⟩
      · simp [Step, pc4, cnt4, H.qW, H.qn]
      · split <;> simp [bare]
      · rw [Nat.zero_add]; exact hs.setFr hi r
      · simp [EvW, pc4, cnt4]
      · show (if i + c.W < c.n then Pc.bx else Pc.wr) ≠ .quit; split <;> simp
      exact hn bb old aw sv it m
/-- The loop's text, for unfolding at one place. -/
noncomputable def LL9u : Code := (findLoop body9).getD .skip
/-- It only leaves. -/
theorem quitsTail (T : Array Value) (todo : List Item) : QuitsD Try.prog 2 0 (G { (baseD 9).at ⟨T, []⟩ todo with mode := .returning } [bot]) := by
  refine QuitsD.ctl (g' := G bot []) rfl (fun w => ?_) ?_
  · simp [G, stepG, unwind, doReturn, results, Frame.at, baseD, bot, Try.func9, Try.f9, seen, GStep.after, goexitEntry]
  refine QuitsD.ctl (g' := { G bot [] with status := .finished }) rfl (fun w => ?_) ⟨rfl, rfl⟩
  simp [G, stepG, unwind, bot, goexitEntry, Frame.catches]
  rfl
set_option maxHeartbeats 16000000 in
/-- ████ THE LOOP. ████ -/
theorem loopW (H : Vok c q V) (hB : q.B < 60) (hN : q.S0.length + q.n + q.W < 1152921504606846976) : ∀ (k i : Nat), i < c.n + c.W → ∀ (bx : Nat) (p : World → Prop), KN c bx p → (∀ w, p w → Wn c q V w) → ∀ (bb : Bool) (old : MuW) (aw sv r : Bool) (it m : Nat) (t8 t9 t10 t11 t12 t13 t14 t15 j16 j17 j18 j19 j20 j21 j22 j23 j24 j25 j26 j27 : Value),
    WU c q bx p k ⟨if i < c.n then .bx else .wr, if i < c.n then 15 else 1, bb, i, old, aw, sv, it, r, bx, m⟩ (G ((baseD 9).at ⟨#[.pointer (some ⟨c.Wg, 0, none⟩), .pointer (some ⟨bw, 0, none⟩), .pointer (some ⟨V.bAt, 0, none⟩), .pointer (some ⟨V.bK, 0, none⟩), .pointer (some ⟨V.bA, 0, none⟩), .pointer (some ⟨V.bN, 0, none⟩), .pointer (some ⟨V.bF, 0, none⟩), .int .i64 (i : Int), t8, t9, t10, t11, t12, t13, t14, t15, j16, j17, j18, j19, j20, j21, j22, j23, j24, j25, j26, j27], [dcall 10 #[.pointer (some ⟨c.Wg, 0, none⟩)]]⟩ [.code LL9, .inLoop LL9, .inBlock 0]) [bot]) := by
  intro k
  induction k using Nat.strongRecOn with
  | _ k ih =>
  intro i hin bx p K hWn bb old aw sv r it m t8 t9 t10 t11 t12 t13 t14 t15 j16 j17 j18 j19 j20 j21 j22 j23 j24 j25 j26 j27
  have hp := K.st
  have hn := H.nlt
  have hW16 := H.W16
  refine ⟨rfl, fun j hj => ?_⟩
  by_cases hi : i < c.n
  · have e1 : (if i < c.n then Pc.bx else Pc.wr) = .bx := if_pos hi
    have e2 : (if i < c.n then 15 else 1) = 15 := if_pos hi
    rw [e1, e2]
    rw [show LL9 = LL9u from rfl]
    simp (config := { decide := true }) only [LL9u, REST4, tailFrom, firstId, findLoop, body9, Try.f9, Option.getD_some, reduceIte, Option.some.injEq, Nat.reduceEqDiff, reduceCtorEq]
    ((iterate 2 (refine GU.ctl hp rfl (fun _ => stepG_seq) ?_)); refine GU.ctl hp rfl (fun _ => stepG_region) ?_; simp only [List.size_toArray, List.length_cons, List.length_nil, Nat.reduceAdd, Nat.zero_add, List.range, List.range.loop]; refine GU.value hp _ rfl rfl (by k_ne) (fun _ => by go_simp <;> rfl) (fun _ => by simp [go_sem, *]) ?_; walk_nrm)
    refine stopLd K rfl 23 (by simp) (m := 14) rfl (by simp) rfl rfl (by k_ne) rfl rfl loud9 (fun w hw => (hWn w hw).at') (.inl (H.at'.ro 0)) ⟨rfl, fun j2 hj2 => ?_⟩
    walk_nrm
    ((iterate 2 (refine GU.value hp _ rfl rfl (by k_ne) (fun _ => by go_simp <;> rfl) (fun _ => by simp [go_sem, *]) ?_; walk_nrm)); refine GU.ctl hp rfl (fun _ => stepG_region_end) ?_; refine GU.ctl hp rfl (fun _ => stepG_cond (t := true) rfl) ?_; simp only [if_true, if_false, Bool.false_eq_true, ↓reduceIte]; refine GU.ctl hp rfl (fun _ => stepG_skip) ?_; refine GU.ctl hp rfl (fun _ => stepG_seq) ?_; refine GU.ctl hp rfl (fun _ => stepG_block) ?_)
    skip
    refine stopDraw (ops := ops4) K rfl dag4 (by simp) (by simp) cnt4 (fun l ho hl => ⟨by have := cnt4_le l; have : l.length ≤ 13 := hl; show cnt4 l < 14; omega, ?_⟩)
    refine r4 H hB hN j2 hi _ _ _ _ _ _ _ _ _ (fun k' hk' bx p K hWn bb old aw sv r it m j16 j17 j18 j19 j20 j21 j22 j23 j24 j25 j26 j27 => ⟨rfl, fun j3 hj3 => ?_⟩) l hl j2 (Nat.le_refl _) false false false false false false false false false false false false bx p K hWn ho bb old aw sv r it m _ _ _ _ _ _ _ _ _ _ _ _ (by simp) (by simp) (by simp) (by simp) (by simp) (by simp) (by simp) (by simp) (by simp) (by simp) (by simp) (by simp) (by simp) (by simp) (by simp) (by simp) (by simp) (by simp) (by simp) (by simp) (by simp) (by simp) (by simp) (by simp) (by simp) (by simp) (by simp) (by simp) (by simp) (by simp) (by simp)
    clear hp
    have hp := K.st
    simp (config := { decide := true }) only [LL9u, REST4, tailFrom, firstId, findLoop, body9, Try.f9, Option.getD_some, reduceIte, Option.some.injEq, Nat.reduceEqDiff, reduceCtorEq]
    (refine GU.ctl hp rfl (fun _ => stepG_region_end) ?_; refine GU.ctl hp rfl (fun _ => stepG_inBlock) ?_; refine GU.ctl hp rfl (fun _ => stepG_region) ?_; simp only [List.size_toArray, List.length_cons, List.length_nil, Nat.reduceAdd, Nat.zero_add, List.range, List.range.loop]; refine GU.value hp _ rfl rfl (by k_ne) (fun _ => by go_simp <;> rfl) (fun _ => by simp [go_sem, *]) ?_; walk_nrm)
    by_cases h2 : i + c.W < c.n
    · have e3 : (if i + c.W < c.n then Pc.bx else Pc.wr) = .bx := if_pos h2
      have e4 : (if i + c.W < c.n then 16 else 2) = 16 := if_pos h2
      rw [e3, e4]
      refine stopLd K rfl 3 (by simp) (m := 15) rfl (by simp) rfl rfl (by k_ne) rfl rfl loud9 (fun w hw => (hWn w hw).k) (.inl (H.k.ro 0)) ⟨rfl, fun j4 hj4 => ?_⟩
      walk_nrm
      ((iterate 2 (refine GU.value hp _ rfl rfl (by k_ne) (fun _ => by go_simp <;> rfl) (fun _ => by simp [go_sem, *]) ?_; walk_nrm)); refine GU.ctl hp rfl (fun _ => stepG_region_end) ?_)
      refine GU.ctl hp rfl (fun _ => stepG_inLoop) ?_
      rw [show IntKind.i64.wrap ((i : Int) + (c.W : Int)) = ((i + c.W : Nat) : Int) from by rw [IntKind.wrap_i64]; omega]
      have hh := ih j3 (by omega) (i + c.W) (by omega) bx p K hWn bb old aw sv r it m
      rw [if_pos h2, if_pos h2] at hh
      exact (hh _ _ _ _ _ _ _ _ _ _ _ _ _ _ _ _ _ _ _ _).2 _ (by omega)
    · have e3 : (if i + c.W < c.n then Pc.bx else Pc.wr) = .wr := if_neg h2
      have e4 : (if i + c.W < c.n then 16 else 2) = 2 := if_neg h2
      rw [e3, e4]
      refine stopLd K rfl 3 (by simp) (m := 1) rfl (by simp) rfl rfl (by k_ne) rfl rfl loud9 (fun w hw => (hWn w hw).k) (.inl (H.k.ro 0)) ⟨rfl, fun j4 hj4 => ?_⟩
      walk_nrm
      ((iterate 2 (refine GU.value hp _ rfl rfl (by k_ne) (fun _ => by go_simp <;> rfl) (fun _ => by simp [go_sem, *]) ?_; walk_nrm)); refine GU.ctl hp rfl (fun _ => stepG_region_end) ?_)
      refine GU.ctl hp rfl (fun _ => stepG_inLoop) ?_
      rw [show IntKind.i64.wrap ((i : Int) + (c.W : Int)) = ((i + c.W : Nat) : Int) from by rw [IntKind.wrap_i64]; omega]
      have hh := ih j3 (by omega) (i + c.W) (by omega) bx p K hWn bb old aw sv r it m
      rw [if_neg h2, if_neg h2] at hh
      exact (hh _ _ _ _ _ _ _ _ _ _ _ _ _ _ _ _ _ _ _ _).2 j4 (by omega)
  · have e1 : (if i < c.n then Pc.bx else Pc.wr) = .wr := if_neg hi
    have e2 : (if i < c.n then 15 else 1) = 1 := if_neg hi
    rw [e1, e2]
    rw [show LL9 = LL9u from rfl]
    simp (config := { decide := true }) only [LL9u, REST4, tailFrom, firstId, findLoop, body9, Try.f9, Option.getD_some, reduceIte, Option.some.injEq, Nat.reduceEqDiff, reduceCtorEq]
    ((iterate 2 (refine GU.ctl hp rfl (fun _ => stepG_seq) ?_)); refine GU.ctl hp rfl (fun _ => stepG_region) ?_; simp only [List.size_toArray, List.length_cons, List.length_nil, Nat.reduceAdd, Nat.zero_add, List.range, List.range.loop]; refine GU.value hp _ rfl rfl (by k_ne) (fun _ => by go_simp <;> rfl) (fun _ => by simp [go_sem, *]) ?_; walk_nrm)
    refine stopLd K rfl 23 (by simp) (m := 0) rfl (by simp) rfl rfl (by k_ne) rfl rfl loud9 (fun w hw => (hWn w hw).at') (.inl (H.at'.ro 0)) ⟨rfl, fun j2 hj2 => ?_⟩
    walk_nrm
    ((iterate 2 (refine GU.value hp _ rfl rfl (by k_ne) (fun _ => by go_simp <;> rfl) (fun _ => by simp [go_sem, *]) ?_; walk_nrm)); refine GU.ctl hp rfl (fun _ => stepG_region_end) ?_; refine GU.ctl hp rfl (fun _ => stepG_cond (t := false) rfl) ?_; simp only [if_true, if_false, Bool.false_eq_true, ↓reduceIte]; refine GU.ctl hp rfl (fun _ => stepG_exit rfl) ?_; refine GU.ctl hp rfl (fun _ => stepG_end) ?_)
    skip
    refine GU.unwind hp rfl Try.func10 nm10 rfl ?_
    walk_nrmf Try.f10
    exact (doneL K (by rw [H.qW]; exact hW16) rfl (quitsTail _ _) j old aw sv it).2 j2 (by omega)

/-- What a go statement starts. -/
def call9 (c : TC) (V : Vw) (bw : Nat) : Deferred := { target := .fn (.func 9) #[.pointer (some ⟨c.Wg, 0, none⟩), .pointer (some ⟨bw, 0, none⟩), .pointer (some ⟨V.bAt, 0, none⟩), .pointer (some ⟨V.bK, 0, none⟩), .pointer (some ⟨V.bA, 0, none⟩), .pointer (some ⟨V.bN, 0, none⟩), .pointer (some ⟨V.bF, 0, none⟩)], args := #[] }
theorem born_step (w : World) : stepG Try.prog false (born Try.prog (call9 c V bw)) w =
    .go (G ((baseD 9).at ⟨#[.pointer (some ⟨c.Wg, 0, none⟩), .pointer (some ⟨bw, 0, none⟩), .pointer (some ⟨V.bAt, 0, none⟩), .pointer (some ⟨V.bK, 0, none⟩), .pointer (some ⟨V.bA, 0, none⟩), .pointer (some ⟨V.bN, 0, none⟩), .pointer (some ⟨V.bF, 0, none⟩), undef, undef, undef, undef, undef, undef, undef, undef, undef, undef, undef, undef, undef, undef, undef, undef, undef, undef, undef, undef, undef], []⟩ [.code body9]) [bot]) w #[] := by
  simp [born, call9, stepG, unwind, callDeferred, invoke, callFunc, Try.func9, Try.f9, seen, GStep.after, G, Frame.enter, Frame.at, baseD, bot, body9]
/-- The worker as it starts. -/
def T0 (c : TC) (bw i : Nat) : Wk := ⟨if i < c.n then .bx else .wr, if i < c.n then 16 else 2, false, i, MuW.nil, false, false, 0, false, bw, 0⟩
set_option maxHeartbeats 16000000 in
/-- ████ A WORKER's WHOLE SCRIPT. ████ -/
theorem childL (H : Vok c q V) (hB : q.B < 60) (hN : q.S0.length + q.n + q.W < 1152921504606846976) (hi : i < c.W) (k : Nat) :
    WU c q bw (PW c q V (.int .i64 (i : Int)) 3 bw) k (T0 c bw i) (born Try.prog (call9 c V bw)) := by
  have K := pw_kn H (.int .i64 (i : Int)) 3 bw
  have hp := K.st
  have hl := loopW (bw := bw) H hB hN
  refine ⟨rfl, fun j hj => ?_⟩
  refine GU.ctl hp rfl (fun w => born_step w) ?_
  simp only [body9, Try.f9, Option.getD_some]
  (refine GU.ctl hp rfl (fun _ => stepG_seq) ?_; refine GU.ctl hp rfl (fun _ => stepG_region) ?_; simp only [List.size_toArray, List.length_cons, List.length_nil, Nat.reduceAdd, Nat.zero_add, List.range, List.range.loop])
  (refine GU.ctl hp rfl (fun _ => stepG_defer rfl rfl (by k_ne) rfl) ?_; walk_nrm)
  (refine GU.ctl hp rfl (fun _ => stepG_region_end) ?_; refine GU.ctl hp rfl (fun _ => stepG_seq) ?_; refine GU.ctl hp rfl (fun _ => stepG_region) ?_; simp only [List.size_toArray, List.length_cons, List.length_nil, Nat.reduceAdd, Nat.zero_add, List.range, List.range.loop])
  by_cases h2 : i < c.n
  · have e3 : T0 c bw i = ⟨.bx, 16, false, i, MuW.nil, false, false, 0, false, bw, 0⟩ := by simp [T0, h2]
    rw [e3]
    refine stopLd K rfl 3 (by simp) (m := 15) rfl (by simp) rfl rfl (by k_ne) rfl rfl loud9 (fun w hw => pw_cell hw) (.inr rfl) ⟨rfl, fun j4 hj4 => ?_⟩
    walk_nrm
    (refine GU.value hp _ rfl rfl (by k_ne) (fun _ => by go_simp <;> rfl) (fun _ => by simp [go_sem, *]) ?_; walk_nrm; refine GU.ctl hp rfl (fun _ => stepG_region_end) ?_; refine GU.ctl hp rfl (fun _ => stepG_block) ?_)
    refine GU.ctl hp rfl (fun _ => stepG_loop) ?_
    have hh := hl (j4 + 1) i (by omega) bw _ K (fun w hw => hw.1) false MuW.nil false false false 0 0
    rw [if_pos h2, if_pos h2] at hh
    exact (hh _ _ _ _ _ _ _ _ _ _ _ _ _ _ _ _ _ _ _ _).2 _ (Nat.lt_succ_self _)
  · have e3 : T0 c bw i = ⟨.wr, 2, false, i, MuW.nil, false, false, 0, false, bw, 0⟩ := by simp [T0, h2]
    rw [e3]
    refine stopLd K rfl 3 (by simp) (m := 1) rfl (by simp) rfl rfl (by k_ne) rfl rfl loud9 (fun w hw => pw_cell hw) (.inr rfl) ⟨rfl, fun j4 hj4 => ?_⟩
    walk_nrm
    (refine GU.value hp _ rfl rfl (by k_ne) (fun _ => by go_simp <;> rfl) (fun _ => by simp [go_sem, *]) ?_; walk_nrm; refine GU.ctl hp rfl (fun _ => stepG_region_end) ?_; refine GU.ctl hp rfl (fun _ => stepG_block) ?_)
    refine GU.ctl hp rfl (fun _ => stepG_loop) ?_
    have hh := hl (j4 + 1) i (by omega) bw _ K (fun w hw => hw.1) false MuW.nil false false false 0 0
    rw [if_neg h2, if_neg h2] at hh
    exact (hh _ _ _ _ _ _ _ _ _ _ _ _ _ _ _ _ _ _ _ _).2 _ (Nat.lt_succ_self _)
end
end Go.Proofs.Ytnlopklbbajlbaa.Sw
