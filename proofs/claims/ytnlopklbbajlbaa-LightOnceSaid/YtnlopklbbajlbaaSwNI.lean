/- LightOnce: See behind its Wait: the names that are new (printed by tools/genni.py). -/
import Derived.Test.YtnlopklbbajlbaaSwNH
set_option linter.unusedVariables false
set_option linter.unusedSimpArgs false
set_option maxRecDepth 100000
namespace Go.Proofs.Ytnlopklbbajlbaa.Sw
open Go Go.Conc Go.ConcN Go.RowKit
open Go.ConcR (DC0 stA smA)
noncomputable def ops26 : Array Oper := (regionOf 26 body5).getD #[]
theorem dag26 : Dag ops26 := dag_of (by kernel_rfl)
noncomputable def LL5b : Code := ((blockOf 4 body5).bind findLoop).getD .skip
noncomputable def LL5bu : Code := ((blockOf 4 body5).bind findLoop).getD .skip
noncomputable def REST27 : Code := (tailFrom 27 body5).getD .skip
noncomputable def REST28 : Code := (tailFrom 28 body5).getD .skip
/-- The names that are new, in order. -/
def outF (fr : Nat → Bool) (nm : Nat → ByteArray) : Nat → List ByteArray
  | 0 => []
  | k + 1 => if fr k then outF fr nm k ++ [nm k] else outF fr nm k
theorem outF_len (fr : Nat → Bool) (nm : Nat → ByteArray) : ∀ k, (outF fr nm k).length ≤ k
  | 0 => Nat.le_refl _
  | k + 1 => by
    have := outF_len fr nm k
    simp only [outF]
    split
    · simp; omega
    · omega
theorem grown_own {W w w' : World} {row : Option Nat} (h : W.grownBy w none) (g : w.grownBy w' row) (hr : ∀ k, row = some k → W.heap.size ≤ k) : W.grownBy w' none :=
  ⟨g.os.trans h.os, g.tape.trans h.tape, g.output.trans h.output, Nat.le_trans h.size g.size, fun k hk _ => (g.block k (Nat.lt_of_lt_of_le hk h.size) (fun e => by have := hr k e.symm; omega)).trans (h.block k hk (by simp))⟩
theorem grown_alloc {W w : World} (h : W.grownBy w none) (o : Obj) : W.grownBy (w.alloc o) none :=
  ⟨h.os, h.tape, h.output, by rw [alloc_size]; have := h.size; omega, fun k hk _ => by
    show (w.heap.push o)[k]? = _
    rw [Array.getElem?_push, if_neg (by have := h.size; omega)]
    exact h.block k hk (by simp)⟩
theorem grown_at {W w : World} (h : W.grownBy w none) (d : Nat) : W.grownBy (w.at d) none := ⟨h.os, h.tape, h.output, h.size, h.block⟩
theorem LG.draw {D : World → World → Array Event → Prop} {Stop : Goroutine → World → Prop} {b : Frame} {a : Act} {kk : List Item} {cs : List Frame} {ops : Array Oper} {id n : Nat} {w : World} (hD : ∀ w w' : World, w'.heap = w.heap → D w w' #[]) (hd : Dag ops)
    (k : ∀ l, Ord ops (Array.replicate ops.size false) l → l.length ≤ ops.size → Goes Try.prog true AtRel D Stop n (G (b.at a (.inRegion ops l :: kk)) cs) w) : Goes Try.prog true AtRel D Stop (n + 1) (G (b.at a (.code (.region id ops true) :: kk)) cs) w :=
  Goes.step rfl fun w₁ r => by
    obtain ⟨d, rfl⟩ := r
    rw [stepG_drawn, mixed]
    obtain ⟨o1, o2⟩ := ord_sched hd ((w.at d).tape (w.at d).drawn (.order b.fn id))
    exact ⟨hD _ _ rfl, Goes.rely atRel_trans (k _ o1 o2) ⟨d + 1, rfl⟩⟩

section
variable {Shun : Loc → Prop} {Stop : Goroutine → World → Prop} {W2 : World} {bN bA bF F ab ao nb no n nl nc ac : Nat} {np ap : Option Addr} {ix : Nat → Nat} {nm : Nat → ByteArray} {fr : Nat → Bool} {cs : List Frame}
set_option maxHeartbeats 16000000 in
/-- ████ A NEW NAME IS APPENDED, in every order. ████ -/
theorem r26 (hbN : W2.cell? ⟨bN, 0, none⟩ = some (.slice np nl nc)) (hbA : W2.cell? ⟨bA, 0, none⟩ = some (.slice ap n ac)) (hbF : W2.cell? ⟨bF, 0, none⟩ = some (.slice (some ⟨F, 0, none⟩) n n))
    (hap : 0 < n → ap = some ⟨ab, ao, none⟩) (hnp : 0 < n → np = some ⟨nb, no, none⟩) (hix : ∀ k, k < n → ix k < nl ∧ W2.cell? ⟨ab, ao + k, none⟩ = some (.int .i64 (ix k : Int)) ∧ W2.cell? ⟨nb, no + ix k, none⟩ = some (.string (nm k))) (hfr : ∀ k, k < n → W2.cell? ⟨F, k, none⟩ = some (.bool (fr k))) (hn : n ≤ 1073741824)
    (s1 : ¬ Shun (.cell ⟨bN, 0, none⟩)) (s2 : ¬ Shun (.cell ⟨bA, 0, none⟩)) (s3 : ¬ Shun (.cell ⟨bF, 0, none⟩)) (s4 : ∀ k, ¬ Shun (.cell ⟨F, k, none⟩)) (s5 : 0 < n → ∀ k, ¬ Shun (.cell ⟨ab, k, none⟩) ∧ ¬ Shun (.cell ⟨nb, k, none⟩)) (hS2 : ∀ ad : Addr, W2.heap.size ≤ ad.block → ¬ Shun (.cell ad)) (m : Nat) {i : Nat} (hi : i < n) (os : List ByteArray) (hos : os.length ≤ i) (kk : List Item)
    (next : ∀ (w : World) (vo : Value) (j65 j66 j67 j68 j69 j70 j71 j72 j73 j74 t0 t1 t2 t3 t5 t6 t8 t9 t10 t11 t12 t14 t15 t18 t19 t20 t21 t22 t23 t24 t25 t26 t27 t28 t29 t30 t31 t32 t33 t34 t35 t36 t37 t38 t39 t40 t41 t42 t43 t44 t45 t46 t47 t48 t49 t50 t51 t52 t53 t54 t55 t56 t60 t61 t62 t63 t64 t75 t76 : Value), W2.grownBy w none → w.ownsRow W2.heap.size 9 1 vo (os.length + 1) (os.map Value.string ++ [.string (nm i)]) → Goes Try.prog true AtRel (DL Shun) Stop m (G ((Go.Conc.base 5).at ⟨#[t0, t1, t2, t3, .pointer (some ⟨bN, 0, none⟩), t5, t6, .pointer (some ⟨bA, 0, none⟩), t8, t9, t10, t11, t12, .pointer (some ⟨bF, 0, none⟩), t14, t15, vo, .int .i64 (i : Int), t18, t19, t20, t21, t22, t23, t24, t25, t26, t27, t28, t29, t30, t31, t32, t33, t34, t35, t36, t37, t38, t39, t40, t41, t42, t43, t44, t45, t46, t47, t48, t49, t50, t51, t52, t53, t54, t55, t56, .slice (some ⟨F, 0, none⟩) n n, .int .i64 (n : Int), .int .i64 (i : Int), t60, t61, t62, t63, t64, j65, j66, j67, j68, j69, j70, j71, j72, j73, j74, t75, t76], []⟩ (.inRegion ops26 [] :: kk)) cs) w) :
    ∀ (l : List Nat) (w : World) (b0 b1 b2 b3 b4 b5 b6 b7 b8 b9 : Bool), W2.grownBy w none → Ord ops26 #[b0, b1, b2, b3, b4, b5, b6, b7, b8, b9, false] l → ∀ (vo : Value) (j65 j66 j67 j68 j69 j70 j71 j72 j73 j74 t0 t1 t2 t3 t5 t6 t8 t9 t10 t11 t12 t14 t15 t18 t19 t20 t21 t22 t23 t24 t25 t26 t27 t28 t29 t30 t31 t32 t33 t34 t35 t36 t37 t38 t39 t40 t41 t42 t43 t44 t45 t46 t47 t48 t49 t50 t51 t52 t53 t54 t55 t56 t60 t61 t62 t63 t64 t75 t76 : Value), (b4 = true → b2 = true) → (b4 = true → b3 = true) → (b5 = true → b4 = true) → (b6 = true → b1 = true) → (b6 = true → b5 = true) → (b7 = true → b6 = true) → (b8 = true → b7 = true) → (b9 = true → b0 = true) → (b9 = true → b8 = true) → (b0 = true → j65 = vo) → (b1 = true → j66 = .slice np nl nc) → (b2 = true → j67 = .slice ap n ac) → (b3 = true → j68 = .int .i64 (i : Int)) → (b4 = true → j69 = .pointer (some ⟨ab, ao + i, none⟩)) → (b5 = true → j70 = .int .i64 (ix i : Int)) → (b6 = true → j71 = .pointer (some ⟨nb, no + ix i, none⟩)) → (b7 = true → j72 = .string (nm i)) → (b8 = true → b9 = false → ∃ g, j73 = .slice (some ⟨g, 0, none⟩) 1 1 ∧ W2.heap.size ≤ g ∧ w.cell? ⟨g, 0, none⟩ = some (.string (nm i))) → (b9 = false → w.ownsRow W2.heap.size 9 1 vo os.length (os.map Value.string)) → (b9 = true → w.ownsRow W2.heap.size 9 1 j74 (os.length + 1) (os.map Value.string ++ [.string (nm i)])) →
      Goes Try.prog true AtRel (DL Shun) Stop (m + l.length) (G ((Go.Conc.base 5).at ⟨#[t0, t1, t2, t3, .pointer (some ⟨bN, 0, none⟩), t5, t6, .pointer (some ⟨bA, 0, none⟩), t8, t9, t10, t11, t12, .pointer (some ⟨bF, 0, none⟩), t14, t15, vo, .int .i64 (i : Int), t18, t19, t20, t21, t22, t23, t24, t25, t26, t27, t28, t29, t30, t31, t32, t33, t34, t35, t36, t37, t38, t39, t40, t41, t42, t43, t44, t45, t46, t47, t48, t49, t50, t51, t52, t53, t54, t55, t56, .slice (some ⟨F, 0, none⟩) n n, .int .i64 (n : Int), .int .i64 (i : Int), t60, t61, t62, t63, t64, j65, j66, j67, j68, j69, j70, j71, j72, j73, j74, t75, t76], []⟩ (.inRegion ops26 l :: kk)) cs) w := by
  have hD := dl_idle Shun
  obtain rfl := hap (by omega)
  obtain rfl := hnp (by omega)
  obtain ⟨hx1, hx2, hx3⟩ := hix i hi
  intro l
  induction l with
  | nil =>
    intro w b0 b1 b2 b3 b4 b5 b6 b7 b8 b9 hg ho
    have := ho 10 (by decide +kernel)
    simp at this
  | cons x l ih =>
    intro w b0 b1 b2 b3 b4 b5 b6 b7 b8 b9 hg ho vo j65 j66 j67 j68 j69 j70 j71 j72 j73 j74 t0 t1 t2 t3 t5 t6 t8 t9 t10 t11 t12 t14 t15 t18 t19 t20 t21 t22 t23 t24 t25 t26 t27 t28 t29 t30 t31 t32 t33 t34 t35 t36 t37 t38 t39 t40 t41 t42 t43 t44 t45 t46 t47 t48 t49 t50 t51 t52 t53 t54 t55 t56 t60 t61 t62 t63 t64 t75 t76 i4_2 i4_3 i5_4 i6_1 i6_5 i7_6 i8_7 i9_0 i9_8 h0 h1 h2 h3 h4 h5 h6 h7 h8 h9f h9t
    have hlt : x < 11 := ho.lt
    obtain ⟨hok, ho⟩ := ho
    have hsz := hg.size
    rw [List.length_cons, ← Nat.add_assoc]
    obtain rfl | rfl | rfl | rfl | rfl | rfl | rfl | rfl | rfl | rfl | rfl : x = 0 ∨ x = 1 ∨ x = 2 ∨ x = 3 ∨ x = 4 ∨ x = 5 ∨ x = 6 ∨ x = 7 ∨ x = 8 ∨ x = 9 ∨ x = 10 := by omega
    · simp [okAt, ops26, regionOf, body5, Try.f5, Region.binds] at hok
      subst hok
      have ih2 := ih w true b1 b2 b3 b4 b5 b6 b7 b8 b9 hg ho vo vo j66 j67 j68 j69 j70 j71 j72 j73 j74 t0 t1 t2 t3 t5 t6 t8 t9 t10 t11 t12 t14 t15 t18 t19 t20 t21 t22 t23 t24 t25 t26 t27 t28 t29 t30 t31 t32 t33 t34 t35 t36 t37 t38 t39 t40 t41 t42 t43 t44 t45 t46 t47 t48 t49 t50 t51 t52 t53 t54 t55 t56 t60 t61 t62 t63 t64 t75 t76 i4_2 i4_3 i5_4 i6_1 i6_5 i7_6 i8_7 (fun _ => rfl) i9_8 (fun _ => rfl) h1 h2 h3 h4 h5 h6 h7 h8 h9f h9t
      simp (config := { decide := true }) only [ops26, regionOf, body5, Try.f5, Option.getD_some, reduceIte, Option.some.injEq, Nat.reduceEqDiff, reduceCtorEq] at ih2 ⊢
      refine LG.value hD _ rfl rfl (by k_ne) (fun _ => by go_simp <;> rfl) (fun _ => by simp [go_sem]) ?_
      exact ih2
    · simp [okAt, ops26, regionOf, body5, Try.f5, Region.binds] at hok
      subst hok
      have ih2 := ih w b0 true b2 b3 b4 b5 b6 b7 b8 b9 hg ho vo j65 (.slice (some ⟨nb, no, none⟩) nl nc) j67 j68 j69 j70 j71 j72 j73 j74 t0 t1 t2 t3 t5 t6 t8 t9 t10 t11 t12 t14 t15 t18 t19 t20 t21 t22 t23 t24 t25 t26 t27 t28 t29 t30 t31 t32 t33 t34 t35 t36 t37 t38 t39 t40 t41 t42 t43 t44 t45 t46 t47 t48 t49 t50 t51 t52 t53 t54 t55 t56 t60 t61 t62 t63 t64 t75 t76 i4_2 i4_3 i5_4 (fun _ => rfl) i6_5 i7_6 i8_7 i9_0 i9_8 h0 (fun _ => rfl) h2 h3 h4 h5 h6 h7 h8 h9f h9t
      simp (config := { decide := true }) only [ops26, regionOf, body5, Try.f5, Option.getD_some, reduceIte, Option.some.injEq, Nat.reduceEqDiff, reduceCtorEq] at ih2 ⊢
      refine LG.ld 26 (by simp) rfl rfl (by k_ne) rfl rfl (hg.cell hbN (by simp)) s1 ?_
      exact ih2
    · simp [okAt, ops26, regionOf, body5, Try.f5, Region.binds] at hok
      subst hok
      have ih2 := ih w b0 b1 true b3 b4 b5 b6 b7 b8 b9 hg ho vo j65 j66 (.slice (some ⟨ab, ao, none⟩) n ac) j68 j69 j70 j71 j72 j73 j74 t0 t1 t2 t3 t5 t6 t8 t9 t10 t11 t12 t14 t15 t18 t19 t20 t21 t22 t23 t24 t25 t26 t27 t28 t29 t30 t31 t32 t33 t34 t35 t36 t37 t38 t39 t40 t41 t42 t43 t44 t45 t46 t47 t48 t49 t50 t51 t52 t53 t54 t55 t56 t60 t61 t62 t63 t64 t75 t76 (fun _ => rfl) i4_3 i5_4 i6_1 i6_5 i7_6 i8_7 i9_0 i9_8 h0 h1 (fun _ => rfl) h3 h4 h5 h6 h7 h8 h9f h9t
      simp (config := { decide := true }) only [ops26, regionOf, body5, Try.f5, Option.getD_some, reduceIte, Option.some.injEq, Nat.reduceEqDiff, reduceCtorEq] at ih2 ⊢
      refine LG.ld 23 (by simp) rfl rfl (by k_ne) rfl rfl (hg.cell hbA (by simp)) s2 ?_
      exact ih2
    · simp [okAt, ops26, regionOf, body5, Try.f5, Region.binds] at hok
      subst hok
      have ih2 := ih w b0 b1 b2 true b4 b5 b6 b7 b8 b9 hg ho vo j65 j66 j67 (.int .i64 (i : Int)) j69 j70 j71 j72 j73 j74 t0 t1 t2 t3 t5 t6 t8 t9 t10 t11 t12 t14 t15 t18 t19 t20 t21 t22 t23 t24 t25 t26 t27 t28 t29 t30 t31 t32 t33 t34 t35 t36 t37 t38 t39 t40 t41 t42 t43 t44 t45 t46 t47 t48 t49 t50 t51 t52 t53 t54 t55 t56 t60 t61 t62 t63 t64 t75 t76 i4_2 (fun _ => rfl) i5_4 i6_1 i6_5 i7_6 i8_7 i9_0 i9_8 h0 h1 h2 (fun _ => rfl) h4 h5 h6 h7 h8 h9f h9t
      simp (config := { decide := true }) only [ops26, regionOf, body5, Try.f5, Option.getD_some, reduceIte, Option.some.injEq, Nat.reduceEqDiff, reduceCtorEq] at ih2 ⊢
      refine LG.value hD _ rfl rfl (by k_ne) (fun _ => by go_simp <;> rfl) (fun _ => by simp [go_sem]) ?_
      exact ih2
    · simp [okAt, ops26, regionOf, body5, Try.f5, Region.binds] at hok
      obtain ⟨rfl, rfl, rfl⟩ := hok
      obtain rfl := h2 rfl
      obtain rfl := h3 rfl
      have ih2 := ih w b0 b1 true true true b5 b6 b7 b8 b9 hg ho vo j65 j66 (.slice (some ⟨ab, ao, none⟩) n ac) (.int .i64 (i : Int)) (.pointer (some ⟨ab, ao + i, none⟩)) j70 j71 j72 j73 j74 t0 t1 t2 t3 t5 t6 t8 t9 t10 t11 t12 t14 t15 t18 t19 t20 t21 t22 t23 t24 t25 t26 t27 t28 t29 t30 t31 t32 t33 t34 t35 t36 t37 t38 t39 t40 t41 t42 t43 t44 t45 t46 t47 t48 t49 t50 t51 t52 t53 t54 t55 t56 t60 t61 t62 t63 t64 t75 t76 (fun _ => rfl) (fun _ => rfl) (fun _ => rfl) i6_1 i6_5 i7_6 i8_7 i9_0 i9_8 h0 h1 (fun _ => rfl) (fun _ => rfl) (fun _ => rfl) h5 h6 h7 h8 h9f h9t
      simp (config := { decide := true }) only [ops26, regionOf, body5, Try.f5, Option.getD_some, reduceIte, Option.some.injEq, Nat.reduceEqDiff, reduceCtorEq] at ih2 ⊢
      refine LG.value hD (.pointer (some ⟨ab, ao + i, none⟩)) rfl rfl (by k_ne) (fun w => (idx_run (w := w) 23 (by simp) (cp := ac) (b := ab) (of := ao) hi rfl rfl rfl).1) (fun w => (idx_run (w := w) 23 (by simp) (cp := ac) (b := ab) (of := ao) hi rfl rfl rfl).2) ?_
      exact ih2
    · simp [okAt, ops26, regionOf, body5, Try.f5, Region.binds] at hok
      obtain ⟨rfl, rfl⟩ := hok
      obtain rfl := h4 rfl
      have ih2 := ih w b0 b1 b2 b3 true true b6 b7 b8 b9 hg ho vo j65 j66 j67 j68 (.pointer (some ⟨ab, ao + i, none⟩)) (.int .i64 (ix i : Int)) j71 j72 j73 j74 t0 t1 t2 t3 t5 t6 t8 t9 t10 t11 t12 t14 t15 t18 t19 t20 t21 t22 t23 t24 t25 t26 t27 t28 t29 t30 t31 t32 t33 t34 t35 t36 t37 t38 t39 t40 t41 t42 t43 t44 t45 t46 t47 t48 t49 t50 t51 t52 t53 t54 t55 t56 t60 t61 t62 t63 t64 t75 t76 i4_2 i4_3 (fun _ => rfl) i6_1 (fun _ => rfl) i7_6 i8_7 i9_0 i9_8 h0 h1 h2 h3 (fun _ => rfl) (fun _ => rfl) h6 h7 h8 h9f h9t
      simp (config := { decide := true }) only [ops26, regionOf, body5, Try.f5, Option.getD_some, reduceIte, Option.some.injEq, Nat.reduceEqDiff, reduceCtorEq] at ih2 ⊢
      refine LG.ld 3 (by simp) rfl rfl (by k_ne) rfl rfl (hg.cell hx2 (by simp)) (s5 (by omega) _).1 ?_
      exact ih2
    · simp [okAt, ops26, regionOf, body5, Try.f5, Region.binds] at hok
      obtain ⟨rfl, rfl, rfl⟩ := hok
      obtain rfl := h1 rfl
      obtain rfl := h5 rfl
      have ih2 := ih w b0 true b2 b3 b4 true true b7 b8 b9 hg ho vo j65 (.slice (some ⟨nb, no, none⟩) nl nc) j67 j68 j69 (.int .i64 (ix i : Int)) (.pointer (some ⟨nb, no + ix i, none⟩)) j72 j73 j74 t0 t1 t2 t3 t5 t6 t8 t9 t10 t11 t12 t14 t15 t18 t19 t20 t21 t22 t23 t24 t25 t26 t27 t28 t29 t30 t31 t32 t33 t34 t35 t36 t37 t38 t39 t40 t41 t42 t43 t44 t45 t46 t47 t48 t49 t50 t51 t52 t53 t54 t55 t56 t60 t61 t62 t63 t64 t75 t76 i4_2 i4_3 i5_4 (fun _ => rfl) (fun _ => rfl) (fun _ => rfl) i8_7 i9_0 i9_8 h0 (fun _ => rfl) h2 h3 h4 (fun _ => rfl) (fun _ => rfl) h7 h8 h9f h9t
      simp (config := { decide := true }) only [ops26, regionOf, body5, Try.f5, Option.getD_some, reduceIte, Option.some.injEq, Nat.reduceEqDiff, reduceCtorEq] at ih2 ⊢
      refine LG.value hD (.pointer (some ⟨nb, no + ix i, none⟩)) rfl rfl (by k_ne) (fun w => (idx_run (w := w) 26 (by simp) (cp := nc) (b := nb) (of := no) hx1 rfl rfl rfl).1) (fun w => (idx_run (w := w) 26 (by simp) (cp := nc) (b := nb) (of := no) hx1 rfl rfl rfl).2) ?_
      exact ih2
    · simp [okAt, ops26, regionOf, body5, Try.f5, Region.binds] at hok
      obtain ⟨rfl, rfl⟩ := hok
      obtain rfl := h6 rfl
      have ih2 := ih w b0 b1 b2 b3 b4 b5 true true b8 b9 hg ho vo j65 j66 j67 j68 j69 j70 (.pointer (some ⟨nb, no + ix i, none⟩)) (.string (nm i)) j73 j74 t0 t1 t2 t3 t5 t6 t8 t9 t10 t11 t12 t14 t15 t18 t19 t20 t21 t22 t23 t24 t25 t26 t27 t28 t29 t30 t31 t32 t33 t34 t35 t36 t37 t38 t39 t40 t41 t42 t43 t44 t45 t46 t47 t48 t49 t50 t51 t52 t53 t54 t55 t56 t60 t61 t62 t63 t64 t75 t76 i4_2 i4_3 i5_4 i6_1 i6_5 (fun _ => rfl) (fun _ => rfl) i9_0 i9_8 h0 h1 h2 h3 h4 h5 (fun _ => rfl) (fun _ => rfl) h8 h9f h9t
      simp (config := { decide := true }) only [ops26, regionOf, body5, Try.f5, Option.getD_some, reduceIte, Option.some.injEq, Nat.reduceEqDiff, reduceCtorEq] at ih2 ⊢
      refine LG.ld 9 (by simp) rfl rfl (by k_ne) rfl rfl (hg.cell hx3 (by simp)) (s5 (by omega) _).2 ?_
      exact ih2
    · simp [okAt, ops26, regionOf, body5, Try.f5, Region.binds] at hok
      obtain ⟨rfl, rfl⟩ := hok
      obtain rfl := h7 rfl
      have ih2 := ih (w.alloc (.cells #[.string (nm i)] 9)) b0 b1 b2 b3 b4 b5 b6 true true b9 (grown_alloc hg _) ho vo j65 j66 j67 j68 j69 j70 j71 (.string (nm i)) (.slice (some ⟨w.heap.size, 0, none⟩) 1 1) j74 t0 t1 t2 t3 t5 t6 t8 t9 t10 t11 t12 t14 t15 t18 t19 t20 t21 t22 t23 t24 t25 t26 t27 t28 t29 t30 t31 t32 t33 t34 t35 t36 t37 t38 t39 t40 t41 t42 t43 t44 t45 t46 t47 t48 t49 t50 t51 t52 t53 t54 t55 t56 t60 t61 t62 t63 t64 t75 t76 i4_2 i4_3 i5_4 i6_1 i6_5 i7_6 (fun _ => rfl) i9_0 (fun _ => rfl) h0 h1 h2 h3 h4 h5 h6 (fun _ => rfl) (fun _ _ => ⟨w.heap.size, rfl, hsz, cell_h (cs := #[.string (nm i)]) (t := 9) (fz := (0, 0)) (by show (w.heap.push _)[w.heap.size]? = _; simp) rfl⟩) (fun e => (h9f e).alloc _) (fun e => absurd (i9_8 e) (by simp))
      simp (config := { decide := true }) only [ops26, regionOf, body5, Try.f5, Option.getD_some, reduceIte, Option.some.injEq, Nat.reduceEqDiff, reduceCtorEq] at ih2 ⊢
      refine LG.bs9 rfl rfl (by k_ne) rfl rfl ?_
      exact ih2
    · simp [okAt, ops26, regionOf, body5, Try.f5, Region.binds] at hok
      obtain ⟨rfl, rfl, rfl⟩ := hok
      obtain rfl := (h0 rfl).symm
      obtain ⟨g, rfl, hg1, hg2⟩ := h8 rfl rfl
      have ih2 := fun v' w' q1 q2 => ih w' true b1 b2 b3 b4 b5 b6 b7 true true (grown_own hg q2 (fun k hk => ((h9f rfl).lt k hk).1)) ho vo vo j66 j67 j68 j69 j70 j71 j72 (.slice (some ⟨g, 0, none⟩) 1 1) v' t0 t1 t2 t3 t5 t6 t8 t9 t10 t11 t12 t14 t15 t18 t19 t20 t21 t22 t23 t24 t25 t26 t27 t28 t29 t30 t31 t32 t33 t34 t35 t36 t37 t38 t39 t40 t41 t42 t43 t44 t45 t46 t47 t48 t49 t50 t51 t52 t53 t54 t55 t56 t60 t61 t62 t63 t64 t75 t76 i4_2 i4_3 i5_4 i6_1 i6_5 i7_6 i8_7 (fun _ => rfl) (fun _ => rfl) (fun _ => rfl) h1 h2 h3 h4 h5 h6 h7 (fun _ e => by cases e) (fun e => by cases e) (fun _ => q1)
      simp (config := { decide := true }) only [ops26, regionOf, body5, Try.f5, Option.getD_some, reduceIte, Option.some.injEq, Nat.reduceEqDiff, reduceCtorEq] at ih2 ⊢
      refine LG.app 26 9 info9 (.string ⟨#[]⟩) 16 W2.heap.size u26 i9 i9z i9s i9b rfl (u := .string (nm i)) rfl rfl (by k_ne) rfl rfl rfl (h9f rfl) hg2 rfl (by simp only [maxLen]; omega) (by omega) hsz (fun ad had => hS2 ad (by omega)) (fun ad had => hS2 ad had) (fun v' w' q1 q2 => ?_)
      exact ih2 v' w' q1 q2
    · simp [okAt, ops26, regionOf, body5, Try.f5, Region.binds] at hok
      obtain ⟨rfl, rfl, rfl, rfl, rfl, rfl, rfl, rfl, rfl, rfl⟩ : b0 = true ∧ b1 = true ∧ b2 = true ∧ b3 = true ∧ b4 = true ∧ b5 = true ∧ b6 = true ∧ b7 = true ∧ b8 = true ∧ b9 = true := ⟨hok.2.1, hok.2.2.1, hok.2.2.2.1, hok.2.2.2.2.1, hok.2.2.2.2.2.1, hok.2.2.2.2.2.2.1, hok.2.2.2.2.2.2.2.1, hok.2.2.2.2.2.2.2.2.1, hok.2.2.2.2.2.2.2.2.2.1, hok.1⟩
      obtain rfl : l = [] := ho.nil (by decide +kernel)
      have hn' := next w j74 j65 j66 j67 j68 j69 j70 j71 j72 j73 j74 t0 t1 t2 t3 t5 t6 t8 t9 t10 t11 t12 t14 t15 t18 t19 t20 t21 t22 t23 t24 t25 t26 t27 t28 t29 t30 t31 t32 t33 t34 t35 t36 t37 t38 t39 t40 t41 t42 t43 t44 t45 t46 t47 t48 t49 t50 t51 t52 t53 t54 t55 t56 t60 t61 t62 t63 t64 t75 t76 hg (h9t rfl)
      simp (config := { decide := true }) only [ops26, regionOf, body5, Try.f5, Option.getD_some, reduceIte, Option.some.injEq, Nat.reduceEqDiff, reduceCtorEq] at hn' ⊢
      refine LG.value hD _ rfl rfl (by k_ne) (fun _ => by go_simp <;> rfl) (fun _ => by simp [go_sem]) ?_
      exact hn'
set_option maxHeartbeats 16000000 in
/-- ████ THE LOOP OVER THE ANSWERS. ████ -/
theorem seeB_loop (hbN : W2.cell? ⟨bN, 0, none⟩ = some (.slice np nl nc)) (hbA : W2.cell? ⟨bA, 0, none⟩ = some (.slice ap n ac)) (hbF : W2.cell? ⟨bF, 0, none⟩ = some (.slice (some ⟨F, 0, none⟩) n n))
    (hap : 0 < n → ap = some ⟨ab, ao, none⟩) (hnp : 0 < n → np = some ⟨nb, no, none⟩) (hix : ∀ k, k < n → ix k < nl ∧ W2.cell? ⟨ab, ao + k, none⟩ = some (.int .i64 (ix k : Int)) ∧ W2.cell? ⟨nb, no + ix k, none⟩ = some (.string (nm k))) (hfr : ∀ k, k < n → W2.cell? ⟨F, k, none⟩ = some (.bool (fr k))) (hn : n ≤ 1073741824)
    (s1 : ¬ Shun (.cell ⟨bN, 0, none⟩)) (s2 : ¬ Shun (.cell ⟨bA, 0, none⟩)) (s3 : ¬ Shun (.cell ⟨bF, 0, none⟩)) (s4 : ∀ k, ¬ Shun (.cell ⟨F, k, none⟩)) (s5 : 0 < n → ∀ k, ¬ Shun (.cell ⟨ab, k, none⟩) ∧ ¬ Shun (.cell ⟨nb, k, none⟩)) (hS2 : ∀ ad : Addr, W2.heap.size ≤ ad.block → ¬ Shun (.cell ad)) (hnext : ∃ m, ∀ (w : World) (vo : Value) (t0 t1 t2 t3 t5 t6 t8 t9 t10 t11 t12 t14 t15 t17 t18 t19 t20 t21 t22 t23 t24 t25 t26 t27 t28 t29 t30 t31 t32 t33 t34 t35 t36 t37 t38 t39 t40 t41 t42 t43 t44 t45 t46 t47 t48 t49 t50 t51 t52 t53 t54 t55 t56 t60 t61 t62 t63 t64 t65 t66 t67 t68 t69 t70 t71 t72 t73 t74 t75 t76 : Value), W2.grownBy w none → w.ownsRow W2.heap.size 9 1 vo (outF fr nm n).length ((outF fr nm n).map Value.string) → Goes Try.prog true AtRel (DL Shun) Stop m (G ((Go.Conc.base 5).at ⟨#[t0, t1, t2, t3, .pointer (some ⟨bN, 0, none⟩), t5, t6, .pointer (some ⟨bA, 0, none⟩), t8, t9, t10, t11, t12, .pointer (some ⟨bF, 0, none⟩), t14, t15, vo, t17, t18, t19, t20, t21, t22, t23, t24, t25, t26, t27, t28, t29, t30, t31, t32, t33, t34, t35, t36, t37, t38, t39, t40, t41, t42, t43, t44, t45, t46, t47, t48, t49, t50, t51, t52, t53, t54, t55, t56, .slice (some ⟨F, 0, none⟩) n n, .int .i64 (n : Int), .int .i64 (n : Int), t60, t61, t62, t63, t64, t65, t66, t67, t68, t69, t70, t71, t72, t73, t74, t75, t76], []⟩ [.code REST28]) cs) w) :
    ∀ rem i, i + rem = n → ∃ m, ∀ (w : World) (vo : Value) (t0 t1 t2 t3 t5 t6 t8 t9 t10 t11 t12 t14 t15 t17 t18 t19 t20 t21 t22 t23 t24 t25 t26 t27 t28 t29 t30 t31 t32 t33 t34 t35 t36 t37 t38 t39 t40 t41 t42 t43 t44 t45 t46 t47 t48 t49 t50 t51 t52 t53 t54 t55 t56 t60 t61 t62 t63 t64 t65 t66 t67 t68 t69 t70 t71 t72 t73 t74 t75 t76 : Value), W2.grownBy w none → w.ownsRow W2.heap.size 9 1 vo (outF fr nm i).length ((outF fr nm i).map Value.string) → Goes Try.prog true AtRel (DL Shun) Stop m (G ((Go.Conc.base 5).at ⟨#[t0, t1, t2, t3, .pointer (some ⟨bN, 0, none⟩), t5, t6, .pointer (some ⟨bA, 0, none⟩), t8, t9, t10, t11, t12, .pointer (some ⟨bF, 0, none⟩), t14, t15, vo, t17, t18, t19, t20, t21, t22, t23, t24, t25, t26, t27, t28, t29, t30, t31, t32, t33, t34, t35, t36, t37, t38, t39, t40, t41, t42, t43, t44, t45, t46, t47, t48, t49, t50, t51, t52, t53, t54, t55, t56, .slice (some ⟨F, 0, none⟩) n n, .int .i64 (n : Int), .int .i64 (i : Int), t60, t61, t62, t63, t64, t65, t66, t67, t68, t69, t70, t71, t72, t73, t74, t75, t76], []⟩ [.code LL5b, .inLoop LL5b, .inBlock 4, .code REST28]) cs) w := by
  have hD := dl_idle Shun
  intro rem
  induction rem with
  | zero =>
    intro i hi
    obtain rfl : i = n := by omega
    obtain ⟨m, hm⟩ := hnext
    refine ⟨m + 40, fun w vo t0 t1 t2 t3 t5 t6 t8 t9 t10 t11 t12 t14 t15 t17 t18 t19 t20 t21 t22 t23 t24 t25 t26 t27 t28 t29 t30 t31 t32 t33 t34 t35 t36 t37 t38 t39 t40 t41 t42 t43 t44 t45 t46 t47 t48 t49 t50 t51 t52 t53 t54 t55 t56 t60 t61 t62 t63 t64 t65 t66 t67 t68 t69 t70 t71 t72 t73 t74 t75 t76 hg ho => ?_⟩
    rw [show LL5b = LL5bu from rfl]
    simp (config := { decide := true }) only [LL5bu, REST27, REST28, tailFrom, firstId, findLoop, blockOf, body5, Try.f5, Option.getD_some, Option.bind_some, reduceIte, Option.some.injEq, Nat.reduceEqDiff, reduceCtorEq]
    (refine LG.ctl hD rfl (fun _ => stepG_seq) ?_; refine LG.ctl hD rfl (fun _ => stepG_region) ?_; simp only [List.size_toArray, List.length_cons, List.length_nil, Nat.reduceAdd, Nat.zero_add, List.range, List.range.loop]; refine LG.value hD _ rfl rfl (by k_ne) (fun _ => by go_simp <;> rfl) (fun _ => by simp [go_sem, *]) ?_; walk_nrm; refine LG.ctl hD rfl (fun _ => stepG_region_end) ?_; refine LG.ctl hD rfl (fun _ => stepG_seq) ?_; refine LG.ctl hD rfl (fun _ => stepG_cond (t := false) rfl) ?_; simp only [if_true, if_false, Bool.false_eq_true, ↓reduceIte]; refine LG.ctl hD rfl (fun _ => stepG_exit rfl) ?_)
    exact Go.ConcM.goes_le (n := m) (by omega) (hm w vo _ _ _ _ _ _ _ _ _ _ _ _ _ _ _ _ _ _ _ _ _ _ _ _ _ _ _ _ _ _ _ _ _ _ _ _ _ _ _ _ _ _ _ _ _ _ _ _ _ _ _ _ _ _ _ _ _ _ _ _ _ _ _ _ _ _ _ _ _ _ hg ho)
  | succ rem ih =>
    intro i hi
    obtain ⟨m, hm⟩ := ih (i + 1) (by omega)
    have hlt : i < n := by omega
    refine ⟨m + 150, fun w vo t0 t1 t2 t3 t5 t6 t8 t9 t10 t11 t12 t14 t15 t17 t18 t19 t20 t21 t22 t23 t24 t25 t26 t27 t28 t29 t30 t31 t32 t33 t34 t35 t36 t37 t38 t39 t40 t41 t42 t43 t44 t45 t46 t47 t48 t49 t50 t51 t52 t53 t54 t55 t56 t60 t61 t62 t63 t64 t65 t66 t67 t68 t69 t70 t71 t72 t73 t74 t75 t76 hg ho => ?_⟩
    have hh := r26 (Stop := Stop) (cs := cs) hbN hbA hbF hap hnp hix hfr hn s1 s2 s3 s4 s5 hS2 (m + 20) hlt (outF fr nm i) (outF_len fr nm i) [.inBlock 5, .code REST27, .inLoop LL5b, .inBlock 4, .code REST28]
    rw [show LL5b = LL5bu from rfl] at hh ⊢
    simp (config := { decide := true }) only [LL5bu, REST27, REST28, tailFrom, firstId, findLoop, blockOf, body5, Try.f5, Option.getD_some, Option.bind_some, reduceIte, Option.some.injEq, Nat.reduceEqDiff, reduceCtorEq] at hh ⊢
    (refine LG.ctl hD rfl (fun _ => stepG_seq) ?_; refine LG.ctl hD rfl (fun _ => stepG_region) ?_; simp only [List.size_toArray, List.length_cons, List.length_nil, Nat.reduceAdd, Nat.zero_add, List.range, List.range.loop]; refine LG.value hD _ rfl rfl (by k_ne) (fun _ => by go_simp <;> rfl) (fun _ => by simp [go_sem, *]) ?_; walk_nrm; refine LG.ctl hD rfl (fun _ => stepG_region_end) ?_; refine LG.ctl hD rfl (fun _ => stepG_seq) ?_; refine LG.ctl hD rfl (fun _ => stepG_cond (t := true) rfl) ?_; simp only [if_true, if_false, Bool.false_eq_true, ↓reduceIte]; refine LG.ctl hD rfl (fun _ => stepG_skip) ?_; refine LG.ctl hD rfl (fun _ => stepG_seq) ?_; refine LG.ctl hD rfl (fun _ => stepG_block) ?_; refine LG.ctl hD rfl (fun _ => stepG_seq) ?_; refine LG.ctl hD rfl (fun _ => stepG_region) ?_; simp only [List.size_toArray, List.length_cons, List.length_nil, Nat.reduceAdd, Nat.zero_add, List.range, List.range.loop]; (iterate 2 (refine LG.value hD _ rfl rfl (by k_ne) (fun _ => by go_simp <;> rfl) (fun _ => by simp [go_sem, *]) ?_; walk_nrm)))
    refine LG.ld4 rfl rfl (by k_ne) rfl rfl (hg.cell (hfr i hlt) (by simp)) (s4 i) ?_
    walk_nrm
    ((iterate 2 (refine LG.value hD _ rfl rfl (by k_ne) (fun _ => by go_simp <;> rfl) (fun _ => by simp [go_sem, *]) ?_; walk_nrm)); refine LG.ctl hD rfl (fun _ => stepG_region_end) ?_; refine LG.ctl hD rfl (fun _ => stepG_seq) ?_; refine LG.ctl hD rfl (fun _ => stepG_region) ?_; simp only [List.size_toArray, List.length_cons, List.length_nil, Nat.reduceAdd, Nat.zero_add, List.range, List.range.loop]; refine LG.value hD _ rfl rfl (by k_ne) (fun _ => by go_simp <;> rfl) (fun _ => by simp [go_sem, *]) ?_; walk_nrm; refine LG.ctl hD rfl (fun _ => stepG_region_end) ?_)
    rcases hf : fr i with _ | _
    · have e1 : outF fr nm (i + 1) = outF fr nm i := by simp [outF, hf]
      rw [e1] at hm
      (refine LG.ctl hD rfl (fun _ => stepG_cond (t := false) rfl) ?_; simp only [if_true, if_false, Bool.false_eq_true, ↓reduceIte]; refine LG.ctl hD rfl (fun _ => stepG_skip) ?_; refine LG.ctl hD rfl (fun _ => stepG_inBlock) ?_; refine LG.ctl hD rfl (fun _ => stepG_region) ?_; simp only [List.size_toArray, List.length_cons, List.length_nil, Nat.reduceAdd, Nat.zero_add, List.range, List.range.loop]; (iterate 2 (refine LG.value hD _ rfl rfl (by k_ne) (fun _ => by go_simp <;> rfl) (fun _ => by simp [go_sem, *]) ?_; walk_nrm)); refine LG.ctl hD rfl (fun _ => stepG_region_end) ?_)
      refine LG.ctl hD rfl (fun _ => stepG_inLoop) ?_
      rw [show IntKind.i64.wrap ((i : Int) + 1) = ((i + 1 : Nat) : Int) from by rw [IntKind.wrap_i64]; omega]
      exact Go.ConcM.goes_le (n := m) (by omega) (hm w vo _ _ _ _ _ _ _ _ _ _ _ _ _ _ _ _ _ _ _ _ _ _ _ _ _ _ _ _ _ _ _ _ _ _ _ _ _ _ _ _ _ _ _ _ _ _ _ _ _ _ _ _ _ _ _ _ _ _ _ _ _ _ _ _ _ _ _ _ _ _ hg ho)
    · have e1 : outF fr nm (i + 1) = outF fr nm i ++ [nm i] := by simp [outF, hf]
      rw [e1] at hm
      simp only [List.length_append, List.length_cons, List.length_nil, List.map_append, List.map_cons, List.map_nil, Nat.zero_add] at hm
      (refine LG.ctl hD rfl (fun _ => stepG_cond (t := true) rfl) ?_; simp only [if_true, if_false, Bool.false_eq_true, ↓reduceIte])
      refine LG.draw (ops := ops26) (fun w w' e => ⟨by rw [e]; exact Nat.le_refl _, by simp⟩) dag26 (fun l hl hlen => ?_)
      have hlen : l.length ≤ 11 := hlen
      refine Go.ConcM.goes_le (n := m + 20 + l.length) (by omega) (hh (fun w vo j65 j66 j67 j68 j69 j70 j71 j72 j73 j74 t0 t1 t2 t3 t5 t6 t8 t9 t10 t11 t12 t14 t15 t18 t19 t20 t21 t22 t23 t24 t25 t26 t27 t28 t29 t30 t31 t32 t33 t34 t35 t36 t37 t38 t39 t40 t41 t42 t43 t44 t45 t46 t47 t48 t49 t50 t51 t52 t53 t54 t55 t56 t60 t61 t62 t63 t64 t75 t76 hg ho => ?_) l w false false false false false false false false false false hg hl vo _ _ _ _ _ _ _ _ _ _ _ _ _ _ _ _ _ _ _ _ _ _ _ _ _ _ _ _ _ _ _ _ _ _ _ _ _ _ _ _ _ _ _ _ _ _ _ _ _ _ _ _ _ _ _ _ _ _ _ _ _ _ _ _ _ _ _ _ _ (by simp) (by simp) (by simp) (by simp) (by simp) (by simp) (by simp) (by simp) (by simp) (by simp) (by simp) (by simp) (by simp) (by simp) (by simp) (by simp) (by simp) (by simp) (fun _ => ho) (by simp))
      simp (config := { decide := true }) only [ops26, regionOf, body5, Try.f5, Option.getD_some, reduceIte, Option.some.injEq, Nat.reduceEqDiff, reduceCtorEq]
      (refine LG.ctl hD rfl (fun _ => stepG_region_end) ?_; refine LG.ctl hD rfl (fun _ => stepG_inBlock) ?_; refine LG.ctl hD rfl (fun _ => stepG_region) ?_; simp only [List.size_toArray, List.length_cons, List.length_nil, Nat.reduceAdd, Nat.zero_add, List.range, List.range.loop]; (iterate 2 (refine LG.value hD _ rfl rfl (by k_ne) (fun _ => by go_simp <;> rfl) (fun _ => by simp [go_sem, *]) ?_; walk_nrm)); refine LG.ctl hD rfl (fun _ => stepG_region_end) ?_)
      refine LG.ctl hD rfl (fun _ => stepG_inLoop) ?_
      rw [show IntKind.i64.wrap ((i : Int) + 1) = ((i + 1 : Nat) : Int) from by rw [IntKind.wrap_i64]; omega]
      exact Go.ConcM.goes_le (n := m) (by omega) (hm w vo _ _ _ _ _ _ _ _ _ _ _ _ _ _ _ _ _ _ _ _ _ _ _ _ _ _ _ _ _ _ _ _ _ _ _ _ _ _ _ _ _ _ _ _ _ _ _ _ _ _ _ _ _ _ _ _ _ _ _ _ _ _ _ _ _ _ _ _ _ _ hg ho)
set_option maxHeartbeats 16000000 in
/-- ████ See, behind its Wait. ████ -/
theorem seeB {b₁ : Frame} {a₁ : Act} {ops₁ : Array Oper} {i₁ : Nat} {rest₁ : List Nat} {k₁ : List Item} {cs' : List Frame} (hbN : W2.cell? ⟨bN, 0, none⟩ = some (.slice np nl nc)) (hbA : W2.cell? ⟨bA, 0, none⟩ = some (.slice ap n ac)) (hbF : W2.cell? ⟨bF, 0, none⟩ = some (.slice (some ⟨F, 0, none⟩) n n))
    (hap : 0 < n → ap = some ⟨ab, ao, none⟩) (hnp : 0 < n → np = some ⟨nb, no, none⟩) (hix : ∀ k, k < n → ix k < nl ∧ W2.cell? ⟨ab, ao + k, none⟩ = some (.int .i64 (ix k : Int)) ∧ W2.cell? ⟨nb, no + ix k, none⟩ = some (.string (nm k))) (hfr : ∀ k, k < n → W2.cell? ⟨F, k, none⟩ = some (.bool (fr k))) (hn : n ≤ 1073741824)
    (s1 : ¬ Shun (.cell ⟨bN, 0, none⟩)) (s2 : ¬ Shun (.cell ⟨bA, 0, none⟩)) (s3 : ¬ Shun (.cell ⟨bF, 0, none⟩)) (s4 : ∀ k, ¬ Shun (.cell ⟨F, k, none⟩)) (s5 : 0 < n → ∀ k, ¬ Shun (.cell ⟨ab, k, none⟩) ∧ ¬ Shun (.cell ⟨nb, k, none⟩)) (hS2 : ∀ ad : Addr, W2.heap.size ≤ ad.block → ¬ Shun (.cell ad)) (hcs : cs = b₁.at a₁ (.inRegion ops₁ (i₁ :: rest₁) :: k₁) :: cs')
    (hnext : ∃ m, ∀ (w : World) (vo : Value), W2.grownBy w none → w.ownsRow W2.heap.size 9 1 vo (outF fr nm n).length ((outF fr nm n).map Value.string) → Goes Try.prog true AtRel (DL Shun) Stop m (G (b₁.at (a₁.put ((ops₁[i₁]?).bind (·.dst)) vo) (.inRegion ops₁ rest₁ :: k₁)) cs') w) (t0 t1 t2 t3 t5 t6 t8 t9 t10 t11 t12 t14 t15 t16 t17 t18 t19 t20 t21 t22 t23 t24 t25 t26 t27 t28 t29 t30 t31 t32 t33 t34 t35 t36 t37 t38 t39 t40 t41 t42 t43 t44 t45 t46 t47 t48 t49 t50 t51 t52 t53 t54 t55 t56 t57 t58 t59 t60 t61 t62 t63 t64 t65 t66 t67 t68 t69 t70 t71 t72 t73 t74 t75 t76 : Value) :
    ∃ m, Goes Try.prog true AtRel (DL Shun) Stop m (G ((Go.Conc.base 5).at ⟨#[t0, t1, t2, t3, .pointer (some ⟨bN, 0, none⟩), t5, t6, .pointer (some ⟨bA, 0, none⟩), t8, t9, t10, t11, t12, .pointer (some ⟨bF, 0, none⟩), t14, t15, t16, t17, t18, t19, t20, t21, t22, t23, t24, t25, t26, t27, t28, t29, t30, t31, t32, t33, t34, t35, t36, t37, t38, t39, t40, t41, t42, t43, t44, t45, t46, t47, t48, t49, t50, t51, t52, t53, t54, t55, t56, t57, t58, t59, t60, t61, t62, t63, t64, t65, t66, t67, t68, t69, t70, t71, t72, t73, t74, t75, t76], []⟩ [.inRegion ops20 [], .code REST21]) cs) W2 := by
  have hD := dl_idle Shun
  obtain ⟨m1, hm1⟩ := hnext
  have h28 : ∃ m, ∀ (w : World) (vo : Value) (t0 t1 t2 t3 t5 t6 t8 t9 t10 t11 t12 t14 t15 t17 t18 t19 t20 t21 t22 t23 t24 t25 t26 t27 t28 t29 t30 t31 t32 t33 t34 t35 t36 t37 t38 t39 t40 t41 t42 t43 t44 t45 t46 t47 t48 t49 t50 t51 t52 t53 t54 t55 t56 t60 t61 t62 t63 t64 t65 t66 t67 t68 t69 t70 t71 t72 t73 t74 t75 t76 : Value), W2.grownBy w none → w.ownsRow W2.heap.size 9 1 vo (outF fr nm n).length ((outF fr nm n).map Value.string) → Goes Try.prog true AtRel (DL Shun) Stop m (G ((Go.Conc.base 5).at ⟨#[t0, t1, t2, t3, .pointer (some ⟨bN, 0, none⟩), t5, t6, .pointer (some ⟨bA, 0, none⟩), t8, t9, t10, t11, t12, .pointer (some ⟨bF, 0, none⟩), t14, t15, vo, t17, t18, t19, t20, t21, t22, t23, t24, t25, t26, t27, t28, t29, t30, t31, t32, t33, t34, t35, t36, t37, t38, t39, t40, t41, t42, t43, t44, t45, t46, t47, t48, t49, t50, t51, t52, t53, t54, t55, t56, .slice (some ⟨F, 0, none⟩) n n, .int .i64 (n : Int), .int .i64 (n : Int), t60, t61, t62, t63, t64, t65, t66, t67, t68, t69, t70, t71, t72, t73, t74, t75, t76], []⟩ [.code REST28]) cs) w := by
    refine ⟨m1 + 30, fun w vo t0 t1 t2 t3 t5 t6 t8 t9 t10 t11 t12 t14 t15 t17 t18 t19 t20 t21 t22 t23 t24 t25 t26 t27 t28 t29 t30 t31 t32 t33 t34 t35 t36 t37 t38 t39 t40 t41 t42 t43 t44 t45 t46 t47 t48 t49 t50 t51 t52 t53 t54 t55 t56 t60 t61 t62 t63 t64 t65 t66 t67 t68 t69 t70 t71 t72 t73 t74 t75 t76 hg ho => ?_⟩
    simp (config := { decide := true }) only [LL5bu, REST27, REST28, tailFrom, firstId, findLoop, blockOf, body5, Try.f5, Option.getD_some, Option.bind_some, reduceIte, Option.some.injEq, Nat.reduceEqDiff, reduceCtorEq]
    rw [hcs]
    (refine LG.ctl hD rfl (fun _ => stepG_seq) ?_; refine LG.ctl hD rfl (fun _ => stepG_region) ?_; simp only [List.size_toArray, List.length_cons, List.length_nil, Nat.reduceAdd, Nat.zero_add, List.range, List.range.loop]; (iterate 2 (refine LG.value hD _ rfl rfl (by k_ne) (fun _ => by go_simp <;> rfl) (fun _ => by simp [go_sem, *]) ?_; walk_nrm)); refine LG.ctl hD rfl (fun _ => stepG_region_end) ?_; refine LG.ctl hD rfl (fun _ => stepG_ret') ?_)
    (refine LG.leave1 hD rfl rfl Try.func5 rfl ?_; walk_nrm)
    exact Go.ConcM.goes_le (n := m1) (by omega) (hm1 w vo hg ho)
  obtain ⟨m, hm⟩ := seeB_loop hbN hbA hbF hap hnp hix hfr hn s1 s2 s3 s4 s5 hS2 h28 n 0 (by omega)
  refine ⟨m + 40, ?_⟩
  simp (config := { decide := true }) only [REST21, ops20, regionOf, tailFrom, firstId, findLoop, blockOf, body5, Try.f5, Option.getD_some, Option.bind_some, reduceIte, Option.some.injEq, Nat.reduceEqDiff, reduceCtorEq]
  (refine LG.ctl hD rfl (fun _ => stepG_region_end) ?_; refine LG.ctl hD rfl (fun _ => stepG_seq) ?_; refine LG.ctl hD rfl (fun _ => stepG_region) ?_; simp only [List.size_toArray, List.length_cons, List.length_nil, Nat.reduceAdd, Nat.zero_add, List.range, List.range.loop]; refine LG.value hD _ rfl rfl (by k_ne) (fun _ => by go_simp <;> rfl) (fun _ => by simp [go_sem, *]) ?_; walk_nrm; refine LG.ctl hD rfl (fun _ => stepG_region_end) ?_; (iterate 2 (refine LG.ctl hD rfl (fun _ => stepG_seq) ?_)); refine LG.ctl hD rfl (fun _ => stepG_region) ?_; simp only [List.size_toArray, List.length_cons, List.length_nil, Nat.reduceAdd, Nat.zero_add, List.range, List.range.loop])
  refine LG.ld 50 (by simp) rfl rfl (by k_ne) rfl rfl hbF s3 ?_
  walk_nrm
  ((iterate 2 (refine LG.value hD _ rfl rfl (by k_ne) (fun _ => by go_simp <;> rfl) (fun _ => by simp [go_sem, *]) ?_; walk_nrm)); refine LG.ctl hD rfl (fun _ => stepG_region_end) ?_; refine LG.ctl hD rfl (fun _ => stepG_block) ?_)
  refine LG.ctl hD rfl (fun _ => stepG_loop) ?_
  exact Go.ConcM.goes_le (n := m) (by omega) (hm W2 (.slice none 0 0) _ _ _ _ _ _ _ _ _ _ _ _ _ _ _ _ _ _ _ _ _ _ _ _ _ _ _ _ _ _ _ _ _ _ _ _ _ _ _ _ _ _ _ _ _ _ _ _ _ _ _ _ _ _ _ _ _ _ _ _ _ _ _ _ _ _ _ _ _ _ ⟨rfl, rfl, rfl, Nat.le_refl _, fun _ _ _ => rfl⟩ (World.ownsRow_nil _ _ _ _))

end
end Go.Proofs.Ytnlopklbbajlbaa.Sw
