/- LightOnce: See ahead of its go statements: each name's first place (printed by tools/genng.py). -/
import Derived.Test.YtnlopklbbajlbaaSwNE
set_option linter.unusedVariables false
set_option linter.unusedSimpArgs false
set_option maxRecDepth 100000
namespace Go.Proofs.Ytnlopklbbajlbaa.Sw
open Go Go.Conc Go.ConcN Go.RowKit
open Go.ConcR (DC0 stA smA)
noncomputable def LL5a : Code := ((blockOf 0 body5).bind findLoop).getD .skip
noncomputable def LL5au : Code := ((blockOf 0 body5).bind findLoop).getD .skip
noncomputable def REST12 : Code := (tailFrom 12 body5).getD .skip

/-! ### the first places, plainly -/
noncomputable def conF (nm : Nat → ByteArray) : Nat → List ByteArray
  | 0 => []
  | i + 1 => if memB (nm i) (conF nm i) then conF nm i else conF nm i ++ [nm i]
noncomputable def ixF (nm : Nat → ByteArray) : Nat → List Nat
  | 0 => []
  | i + 1 => if memB (nm i) (conF nm i) then ixF nm i else ixF nm i ++ [i]

theorem ixF_len (nm : Nat → ByteArray) : ∀ i, (ixF nm i).length ≤ i
  | 0 => Nat.le_refl _
  | i + 1 => by
    have := ixF_len nm i
    simp only [ixF]
    split
    · omega
    · simp; omega
/-- WHAT STANDS IN MEMORY while See looks for first places. -/
structure SeeI (W0 : World) (A B : Nat) (nmv : Value) (Wk : Int) (con : List ByteArray) (xs : List Nat) (v : Value) (w : World) : Prop where
  gr : W0.grownBy w none
  a : w.heap[B]? = some (.cells #[.pointer (some ⟨A, 0, none⟩)] 24)
  n : w.heap[B + 1]? = some (.cells #[nmv] 26)
  k : w.heap[B + 2]? = some (.cells #[.int .i64 Wk] 3)
  t : w.heap[B + 3]? = some (.cells #[v] 23)
  m : ∃ es ck, w.heap[B + 4]? = some (.map es ck) ∧ es.toList.map (·.key) = con.map Value.string
  row : w.ownsRow (B + 5) 3 1 v xs.length (xs.map fun x : Nat => Value.int .i64 (x : Int))
section
variable {W0 : World} {A B : Nat} {nmv : Value} {Wk : Int} {con : List ByteArray} {xs : List Nat} {v : Value} {w : World}
theorem SeeI.lt (h : SeeI W0 A B nmv Wk con xs v w) : B + 5 ≤ w.heap.size := by
  obtain ⟨es, ck, h1, _⟩ := h.m
  have := (Array.getElem?_eq_some_iff.1 h1).1
  omega
theorem cell_h {b off : Nat} {cs : Array Value} {t : TypeId} {fz : Nat × Nat} {v : Value} (h : w.heap[b]? = some (.cells cs t fz)) (hv : cs[off]? = some v) : w.cell? ⟨b, off, none⟩ = some v := by simp [World.cell?, h, hv]
/-- One name more. -/
theorem SeeI.add (hB : W0.heap.size = B) (h : SeeI W0 A B nmv Wk con xs v w) {nm : ByteArray} {es : Array MapEntry} {ck i : Nat} (hm : w.heap[B + 4]? = some (.map es ck)) (hk : es.toList.map (·.key) = con.map Value.string) {val v' : Value} {w3 : World} {ob : Obj}
    (hown : w3.ownsRow (B + 5) 3 1 v' (xs.length + 1) ((xs.map fun x : Nat => Value.int .i64 (x : Int)) ++ [.int .i64 (i : Int)])) (hgr : (World.alloc { w with heap := w.heap.setIfInBounds (B + 4) (.map (es.push { key := .string nm, val := val, born := ck }) (ck + 1)) } ob).grownBy w3 v.ownBlock) :
    SeeI W0 A B nmv Wk (con ++ [nm]) (xs ++ [i]) v' (w3.setCell ⟨B + 3, 0, none⟩ v') := by
  have hlt := h.lt
  have A3 := aside_setCell w3 ⟨B + 3, 0, none⟩ v'
  have hrow : ∀ b, b < B + 5 → some b ≠ v.ownBlock := fun b hb e => by have := (h.row.lt b e.symm).1; omega
  have k1 : ∀ b, b < B + 5 → b ≠ B + 4 → w3.heap[b]? = w.heap[b]? := fun b hb hne => by
    rw [hgr.block b (by rw [alloc_size]; simp; omega) (hrow b hb)]
    show ((w.heap.setIfInBounds (B + 4) _).push ob)[b]? = _
    rw [Array.getElem?_push, if_neg (by simp; omega)]
    simp [Ne.symm hne]
  have k2 : w3.heap[B + 4]? = some (.map (es.push { key := .string nm, val := val, born := ck }) (ck + 1)) := by
    rw [hgr.block _ (by rw [alloc_size]; simp; omega) (hrow _ (by omega))]
    show ((w.heap.setIfInBounds (B + 4) _).push ob)[B + 4]? = _
    rw [Array.getElem?_push, if_neg (by simp; omega)]
    have : B + 4 < w.heap.size := by omega
    simp [this]
  have k3 : ∀ b, b ≠ B + 3 → (w3.setCell ⟨B + 3, 0, none⟩ v').heap[b]? = w3.heap[b]? := fun b hb => A3.block b hb
  have sz := hgr.size
  rw [alloc_size] at sz
  simp at sz
  refine ⟨⟨?_, ?_, ?_, ?_, fun b hb _ => ?_⟩, ?_, ?_, ?_, ?_, ⟨_, _, by rw [k3 _ (by omega)]; exact k2, by simp [hk]⟩, ?_⟩
  · rw [A3.os]; exact hgr.os.trans h.gr.os
  · rw [A3.tape]; exact hgr.tape.trans h.gr.tape
  · rw [A3.output]; exact hgr.output.trans h.gr.output
  · rw [A3.size]; have := h.gr.size; omega
  · rw [k3 _ (by omega), k1 _ (by omega) (by omega)]; exact h.gr.block b hb (by simp)
  · rw [k3 _ (by omega), k1 _ (by omega) (by omega)]; exact h.a
  · rw [k3 _ (by omega), k1 _ (by omega) (by omega)]; exact h.n
  · rw [k3 _ (by omega), k1 _ (by omega) (by omega)]; exact h.k
  · have h3 : w3.heap[B + 3]? = some (.cells #[v] 23) := by rw [k1 _ (by omega) (by omega)]; exact h.t
    have := heap_set (a := ⟨B + 3, 0, none⟩) (v := v') h3 rfl
    simpa using this
  · have := ownsRow_setCell_below hown (a := ⟨B + 3, 0, none⟩) (by show B + 3 < B + 5; omega) v'
    simpa using this
end

section
variable {Shun : Loc → Prop} {Stop : Goroutine → World → Prop} {W0 : World} {A B : Nat} {Wk : Int} {nm : Nat → ByteArray} {nmp : Option Addr} {N nc nb no : Nat} {cs : List Frame}
set_option maxHeartbeats 16000000 in
/-- ████ THE LOOP OVER THE NAMES. ████ -/
theorem seeA_loop (hB : W0.heap.size = B) (hN : N ≤ 1073741824) (hnmp : 0 < N → nmp = some ⟨nb, no, none⟩) (hnm : ∀ k, k < N → W0.cell? ⟨nb, no + k, none⟩ = some (.string (nm k))) (hS1 : 0 < N → ∀ ad : Addr, ad.block = nb → ¬ Shun (.cell ad)) (hS2 : ∀ ad : Addr, B ≤ ad.block → ¬ Shun (.cell ad)) (hS3 : ∀ r, B ≤ r → ¬ Shun (.obj r))
    (hnext : ∃ m, ∀ (w : World) (v : Value) (t1 t2 t6 t9 t10 t11 t12 t13 t14 t15 t16 t17 t18 t19 t20 t21 t22 t26 t27 t28 t29 t30 t31 t32 t33 t34 t35 t36 t37 t38 t39 t40 t41 t42 t43 t44 t45 t46 t47 t48 t49 t50 t51 t52 t53 t54 t55 t56 t57 t58 t59 t60 t61 t62 t63 t64 t65 t66 t67 t68 t69 t70 t71 t72 t73 t74 t75 t76 : Value), SeeI W0 A B (.slice nmp N nc) Wk (conF nm N) (ixF nm N) v w → Goes Try.prog true AtRel (DL Shun) Stop m (G ((Go.Conc.base 5).at ⟨#[.pointer (some ⟨A, 0, none⟩), t1, t2, .pointer (some ⟨B, 0, none⟩), .pointer (some ⟨B + 1, 0, none⟩), .pointer (some ⟨B + 2, 0, none⟩), t6, .pointer (some ⟨B + 3, 0, none⟩), .map (some (B + 4)), t9, t10, t11, t12, t13, t14, t15, t16, t17, t18, t19, t20, t21, t22, .slice nmp N nc, .int .i64 (N : Int), .int .i64 (N : Int), t26, t27, t28, t29, t30, t31, t32, t33, t34, t35, t36, t37, t38, t39, t40, t41, t42, t43, t44, t45, t46, t47, t48, t49, t50, t51, t52, t53, t54, t55, t56, t57, t58, t59, t60, t61, t62, t63, t64, t65, t66, t67, t68, t69, t70, t71, t72, t73, t74, t75, t76], []⟩ [.code REST12]) cs) w) :
    ∀ rem i, i + rem = N → ∃ m, ∀ (w : World) (v : Value) (t1 t2 t6 t9 t10 t11 t12 t13 t14 t15 t16 t17 t18 t19 t20 t21 t22 t26 t27 t28 t29 t30 t31 t32 t33 t34 t35 t36 t37 t38 t39 t40 t41 t42 t43 t44 t45 t46 t47 t48 t49 t50 t51 t52 t53 t54 t55 t56 t57 t58 t59 t60 t61 t62 t63 t64 t65 t66 t67 t68 t69 t70 t71 t72 t73 t74 t75 t76 : Value), SeeI W0 A B (.slice nmp N nc) Wk (conF nm i) (ixF nm i) v w → Goes Try.prog true AtRel (DL Shun) Stop m (G ((Go.Conc.base 5).at ⟨#[.pointer (some ⟨A, 0, none⟩), t1, t2, .pointer (some ⟨B, 0, none⟩), .pointer (some ⟨B + 1, 0, none⟩), .pointer (some ⟨B + 2, 0, none⟩), t6, .pointer (some ⟨B + 3, 0, none⟩), .map (some (B + 4)), t9, t10, t11, t12, t13, t14, t15, t16, t17, t18, t19, t20, t21, t22, .slice nmp N nc, .int .i64 (N : Int), .int .i64 (i : Int), t26, t27, t28, t29, t30, t31, t32, t33, t34, t35, t36, t37, t38, t39, t40, t41, t42, t43, t44, t45, t46, t47, t48, t49, t50, t51, t52, t53, t54, t55, t56, t57, t58, t59, t60, t61, t62, t63, t64, t65, t66, t67, t68, t69, t70, t71, t72, t73, t74, t75, t76], []⟩ [.code LL5a, .inLoop LL5a, .inBlock 0, .code REST12]) cs) w := by
  have hD := dl_idle Shun
  intro rem
  induction rem with
  | zero =>
    intro i hi
    obtain rfl : i = N := by omega
    obtain ⟨m, hm⟩ := hnext
    refine ⟨m + 40, fun w v t1 t2 t6 t9 t10 t11 t12 t13 t14 t15 t16 t17 t18 t19 t20 t21 t22 t26 t27 t28 t29 t30 t31 t32 t33 t34 t35 t36 t37 t38 t39 t40 t41 t42 t43 t44 t45 t46 t47 t48 t49 t50 t51 t52 t53 t54 t55 t56 t57 t58 t59 t60 t61 t62 t63 t64 t65 t66 t67 t68 t69 t70 t71 t72 t73 t74 t75 t76 h => ?_⟩
    rw [show LL5a = LL5au from rfl]
    simp (config := { decide := true }) only [LL5au, REST12, tailFrom, firstId, findLoop, blockOf, body5, Try.f5, Option.getD_some, Option.bind_some, reduceIte, Option.some.injEq, Nat.reduceEqDiff, reduceCtorEq]
    (refine LG.ctl hD rfl (fun _ => stepG_seq) ?_; refine LG.ctl hD rfl (fun _ => stepG_region) ?_; simp only [List.size_toArray, List.length_cons, List.length_nil, Nat.reduceAdd, Nat.zero_add, List.range, List.range.loop]; refine LG.value hD _ rfl rfl (by k_ne) (fun _ => by go_simp <;> rfl) (fun _ => by simp [go_sem, *]) ?_; walk_nrm; refine LG.ctl hD rfl (fun _ => stepG_region_end) ?_; refine LG.ctl hD rfl (fun _ => stepG_seq) ?_; refine LG.ctl hD rfl (fun _ => stepG_cond (t := false) rfl) ?_; simp only [if_true, if_false, Bool.false_eq_true, ↓reduceIte]; refine LG.ctl hD rfl (fun _ => stepG_exit rfl) ?_)
    exact Go.ConcM.goes_le (n := m) (by omega) (hm w v _ _ _ _ _ _ _ _ _ _ _ _ _ _ _ _ _ _ _ _ _ _ _ _ _ _ _ _ _ _ _ _ _ _ _ _ _ _ _ _ _ _ _ _ _ _ _ _ _ _ _ _ _ _ _ _ _ _ _ _ _ _ _ _ _ _ _ _ h)
  | succ rem ih =>
    intro i hi
    obtain ⟨m, hm⟩ := ih (i + 1) (by omega)
    have hlt : i < N := by omega
    obtain rfl := hnmp (by omega)
    refine ⟨m + 150, fun w v t1 t2 t6 t9 t10 t11 t12 t13 t14 t15 t16 t17 t18 t19 t20 t21 t22 t26 t27 t28 t29 t30 t31 t32 t33 t34 t35 t36 t37 t38 t39 t40 t41 t42 t43 t44 t45 t46 t47 t48 t49 t50 t51 t52 t53 t54 t55 t56 t57 t58 t59 t60 t61 t62 t63 t64 t65 t66 t67 t68 t69 t70 t71 t72 t73 t74 t75 t76 h => ?_⟩
    rw [show LL5a = LL5au from rfl]
    simp (config := { decide := true }) only [LL5au, REST12, tailFrom, firstId, findLoop, blockOf, body5, Try.f5, Option.getD_some, Option.bind_some, reduceIte, Option.some.injEq, Nat.reduceEqDiff, reduceCtorEq]
    (refine LG.ctl hD rfl (fun _ => stepG_seq) ?_; refine LG.ctl hD rfl (fun _ => stepG_region) ?_; simp only [List.size_toArray, List.length_cons, List.length_nil, Nat.reduceAdd, Nat.zero_add, List.range, List.range.loop]; refine LG.value hD _ rfl rfl (by k_ne) (fun _ => by go_simp <;> rfl) (fun _ => by simp [go_sem, *]) ?_; walk_nrm; refine LG.ctl hD rfl (fun _ => stepG_region_end) ?_; refine LG.ctl hD rfl (fun _ => stepG_seq) ?_; refine LG.ctl hD rfl (fun _ => stepG_cond (t := true) rfl) ?_; simp only [if_true, if_false, Bool.false_eq_true, ↓reduceIte]; refine LG.ctl hD rfl (fun _ => stepG_skip) ?_; refine LG.ctl hD rfl (fun _ => stepG_seq) ?_; refine LG.ctl hD rfl (fun _ => stepG_block) ?_; refine LG.ctl hD rfl (fun _ => stepG_seq) ?_; refine LG.ctl hD rfl (fun _ => stepG_region) ?_; simp only [List.size_toArray, List.length_cons, List.length_nil, Nat.reduceAdd, Nat.zero_add, List.range, List.range.loop]; (iterate 2 (refine LG.value hD _ rfl rfl (by k_ne) (fun _ => by go_simp <;> rfl) (fun _ => by simp [go_sem, *]) ?_; walk_nrm)))
    refine LG.ld 9 (by simp) rfl rfl (by k_ne) rfl rfl (h.gr.cell (hnm i hlt) (by simp)) (hS1 (by omega) _ rfl) ?_
    walk_nrm
    ((iterate 2 (refine LG.value hD _ rfl rfl (by k_ne) (fun _ => by go_simp <;> rfl) (fun _ => by simp [go_sem, *]) ?_; walk_nrm)); refine LG.ctl hD rfl (fun _ => stepG_region_end) ?_; refine LG.ctl hD rfl (fun _ => stepG_seq) ?_; refine LG.ctl hD rfl (fun _ => stepG_region) ?_; simp only [List.size_toArray, List.length_cons, List.length_nil, Nat.reduceAdd, Nat.zero_add, List.range, List.range.loop]; (iterate 2 (refine LG.value hD _ rfl rfl (by k_ne) (fun _ => by go_simp <;> rfl) (fun _ => by simp [go_sem, *]) ?_; walk_nrm)))
    obtain ⟨es, ck, hmm, hkk⟩ := h.m
    refine LG.lk rfl rfl (by k_ne) rfl rfl rfl hmm hkk (hS3 _ (by omega)) (fun vv => ?_)
    walk_nrm
    have hlt5 := h.lt
    rcases hmb : memB (nm i) (conF nm i) with _ | _
    · ((iterate 5 (refine LG.value hD _ rfl rfl (by k_ne) (fun _ => by go_simp <;> rfl) (fun _ => by simp [go_sem, *]) ?_; walk_nrm)); refine LG.ctl hD rfl (fun _ => stepG_region_end) ?_; refine LG.ctl hD rfl (fun _ => stepG_seq) ?_; refine LG.ctl hD rfl (fun _ => stepG_region) ?_; simp only [List.size_toArray, List.length_cons, List.length_nil, Nat.reduceAdd, Nat.zero_add, List.range, List.range.loop]; (iterate 2 (refine LG.value hD _ rfl rfl (by k_ne) (fun _ => by go_simp <;> rfl) (fun _ => by simp [go_sem, *]) ?_; walk_nrm)); refine LG.ctl hD rfl (fun _ => stepG_region_end) ?_; refine LG.ctl hD rfl (fun _ => stepG_cond (t := true) rfl) ?_; simp only [if_true, if_false, Bool.false_eq_true, ↓reduceIte]; refine LG.ctl hD rfl (fun _ => stepG_seq) ?_; refine LG.ctl hD rfl (fun _ => stepG_region) ?_; simp only [List.size_toArray, List.length_cons, List.length_nil, Nat.reduceAdd, Nat.zero_add, List.range, List.range.loop]; (iterate 3 (refine LG.value hD _ rfl rfl (by k_ne) (fun _ => by go_simp <;> rfl) (fun _ => by simp [go_sem, *]) ?_; walk_nrm)))
      have hni := memB_false.1 hmb
      refine LG.mu rfl rfl (by k_ne) rfl rfl rfl rfl hmm hkk hni (hS3 _ (by omega)) ?_
      walk_nrm
      (refine LG.ctl hD rfl (fun _ => stepG_region_end) ?_; refine LG.ctl hD rfl (fun _ => stepG_region) ?_; simp only [List.size_toArray, List.length_cons, List.length_nil, Nat.reduceAdd, Nat.zero_add, List.range, List.range.loop])
      have hcell : ∀ b : Nat, b ≠ B + 4 → ∀ vx : Value, w.cell? ⟨b, 0, none⟩ = some vx → ({ w with heap := w.heap.setIfInBounds (B + 4) (.map (es.push { key := .string (nm i), val := .int .i64 (i : Int), born := ck }) (ck + 1)) } : World).cell? ⟨b, 0, none⟩ = some vx := fun b hb vx hx => by
        rw [← hx]
        exact cell_of (by show (w.heap.setIfInBounds (B + 4) _)[b]? = _; simp [Ne.symm hb])
      refine LG.ld 23 (by simp) rfl rfl (by k_ne) rfl rfl (hcell (B + 3) (by omega) v (cell_h h.t rfl)) (hS2 _ (by show B ≤ B + 3; omega)) ?_
      walk_nrm
      (refine LG.value hD _ rfl rfl (by k_ne) (fun _ => by go_simp <;> rfl) (fun _ => by simp [go_sem, *]) ?_; walk_nrm)
      refine LG.bs3 rfl rfl (by k_ne) rfl rfl ?_
      walk_nrm
      have hown : ({ w with heap := w.heap.setIfInBounds (B + 4) (.map (es.push { key := .string (nm i), val := .int .i64 (i : Int), born := ck }) (ck + 1)) } : World).ownsRow (B + 5) 3 1 v (ixF nm i).length ((ixF nm i).map fun x : Nat => Value.int .i64 (x : Int)) := by
        refine h.row.kept (row := some (B + 4)) ⟨rfl, rfl, rfl, by simp, fun b hb hne => ?_⟩ ?_
        · have : b ≠ B + 4 := fun e => hne (congrArg some e)
          simp [Ne.symm this]
        · rcases hob : v.ownBlock with _ | g
          · exact .inl rfl
          · exact .inr (fun e => by have := (h.row.lt g hob).1; cases e; omega)
      have hlen := ixF_len nm i
      refine LG.app 23 3 info3 (.int .i64 0) 8 (B + 5) u23 i3 i3z i3s i3b rfl (u := .int .i64 (i : Int)) rfl rfl (by k_ne) rfl rfl rfl (hown.alloc _) (cell_h (off := 0) (cs := #[.int .i64 (i : Int)]) (t := 3) (fz := (0, 0)) ?_ rfl) rfl (by simp only [maxLen]; omega) (by omega) (by rw [alloc_size]; simp; omega) (fun ad had => hS2 ad ?_) (fun ad had => hS2 ad (by omega)) (fun v' w' h1 h2 => ?_)
      · show (Array.push _ _)[_]? = _
        rw [Array.getElem?_push]
        exact if_pos rfl
      · rw [had]
        show B ≤ (w.heap.setIfInBounds (B + 4) _).size
        simp
        omega
      walk_nrm
      have h3 : w'.heap[B + 3]? = some (.cells #[v] 23) := by
        rw [h2.block (B + 3) (by rw [alloc_size]; simp; omega) (fun e => by have := (h.row.lt (B + 3) e.symm).1; omega)]
        show (Array.push _ _)[B + 3]? = _
        rw [Array.getElem?_push, if_neg (by simp; omega)]
        simp
        exact h.t
      have hsl : ∃ p l c, v' = .slice p l c := by
        rcases h1.2 with ⟨e, _⟩ | ⟨g, cap, cur, e, _⟩
        · exact ⟨_, _, _, e⟩
        · exact ⟨_, _, _, e⟩
      refine LG.st (ad := ⟨B + 3, 0, none⟩) (v := v') (u := v) rfl rfl (by k_ne) (fun w hc hf => st_slice 23 (by simp) hsl rfl rfl rfl hc hf) (cell_h h3 rfl) (by simp [World.frozen?, h3]) (hS2 _ (by show B ≤ B + 3; omega)) ?_
      walk_nrm
      (refine LG.ctl hD rfl (fun _ => stepG_region_end) ?_; refine LG.ctl hD rfl (fun _ => stepG_inBlock) ?_; refine LG.ctl hD rfl (fun _ => stepG_region) ?_; simp only [List.size_toArray, List.length_cons, List.length_nil, Nat.reduceAdd, Nat.zero_add, List.range, List.range.loop]; (iterate 2 (refine LG.value hD _ rfl rfl (by k_ne) (fun _ => by go_simp <;> rfl) (fun _ => by simp [go_sem, *]) ?_; walk_nrm)); refine LG.ctl hD rfl (fun _ => stepG_region_end) ?_)
      refine LG.ctl hD rfl (fun _ => stepG_inLoop) ?_
      rw [show IntKind.i64.wrap ((i : Int) + 1) = ((i + 1 : Nat) : Int) from by rw [IntKind.wrap_i64]; omega]
      have hs := h.add hB hmm hkk h1 h2
      have e1 : conF nm (i + 1) = conF nm i ++ [nm i] := by simp only [conF, hmb]; rfl
      have e2 : ixF nm (i + 1) = ixF nm i ++ [i] := by simp only [ixF, hmb]; rfl
      rw [← e1, ← e2] at hs
      exact Go.ConcM.goes_le (n := m) (by omega) (hm _ v' _ _ _ _ _ _ _ _ _ _ _ _ _ _ _ _ _ _ _ _ _ _ _ _ _ _ _ _ _ _ _ _ _ _ _ _ _ _ _ _ _ _ _ _ _ _ _ _ _ _ _ _ _ _ _ _ _ _ _ _ _ _ _ _ _ _ _ _ hs)
    · ((iterate 5 (refine LG.value hD _ rfl rfl (by k_ne) (fun _ => by go_simp <;> rfl) (fun _ => by simp [go_sem, *]) ?_; walk_nrm)); refine LG.ctl hD rfl (fun _ => stepG_region_end) ?_; refine LG.ctl hD rfl (fun _ => stepG_seq) ?_; refine LG.ctl hD rfl (fun _ => stepG_region) ?_; simp only [List.size_toArray, List.length_cons, List.length_nil, Nat.reduceAdd, Nat.zero_add, List.range, List.range.loop]; (iterate 2 (refine LG.value hD _ rfl rfl (by k_ne) (fun _ => by go_simp <;> rfl) (fun _ => by simp [go_sem, *]) ?_; walk_nrm)); refine LG.ctl hD rfl (fun _ => stepG_region_end) ?_; refine LG.ctl hD rfl (fun _ => stepG_cond (t := false) rfl) ?_; simp only [if_true, if_false, Bool.false_eq_true, ↓reduceIte]; refine LG.ctl hD rfl (fun _ => stepG_skip) ?_; refine LG.ctl hD rfl (fun _ => stepG_inBlock) ?_; refine LG.ctl hD rfl (fun _ => stepG_region) ?_; simp only [List.size_toArray, List.length_cons, List.length_nil, Nat.reduceAdd, Nat.zero_add, List.range, List.range.loop]; (iterate 2 (refine LG.value hD _ rfl rfl (by k_ne) (fun _ => by go_simp <;> rfl) (fun _ => by simp [go_sem, *]) ?_; walk_nrm)); refine LG.ctl hD rfl (fun _ => stepG_region_end) ?_)
      refine LG.ctl hD rfl (fun _ => stepG_inLoop) ?_
      rw [show IntKind.i64.wrap ((i : Int) + 1) = ((i + 1 : Nat) : Int) from by rw [IntKind.wrap_i64]; omega]
      have e1 : conF nm (i + 1) = conF nm i := by simp only [conF, hmb, if_true]
      have e2 : ixF nm (i + 1) = ixF nm i := by simp only [ixF, hmb, if_true]
      rw [← e1, ← e2] at h
      exact Go.ConcM.goes_le (n := m) (by omega) (hm w v _ _ _ _ _ _ _ _ _ _ _ _ _ _ _ _ _ _ _ _ _ _ _ _ _ _ _ _ _ _ _ _ _ _ _ _ _ _ _ _ _ _ _ _ _ _ _ _ _ _ _ _ _ _ _ _ _ _ _ _ _ _ _ _ _ _ _ _ h)
end
end Go.Proofs.Ytnlopklbbajlbaa.Sw
