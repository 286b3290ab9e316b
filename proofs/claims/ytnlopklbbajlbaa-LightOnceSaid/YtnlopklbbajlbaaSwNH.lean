/- LightOnce: See from its entry to its go statements (printed by tools/gennh.py). -/
import Derived.Test.YtnlopklbbajlbaaSwNG
set_option linter.unusedVariables false
set_option linter.unusedSimpArgs false
set_option maxRecDepth 100000
namespace Go.Proofs.Ytnlopklbbajlbaa.Sw
open Go Go.Conc Go.ConcN Go.RowKit
open Go.ConcR (DC0 stA smA)

/-- ████ SEE STANDS AT ITS GO STATEMENTS. ████ -/
def SeeMid (W0 : World) (A B : Nat) (nmv : Value) (Wk : Int) (con : List ByteArray) (xs : List Nat) (cs : List Frame) (g : Goroutine) (w : World) : Prop :=
  ∃ (F : Nat) (v : Value) (t1 t2 t6 t8 t9 t10 t11 t12 t15 t16 t17 t18 t19 t20 t21 t22 t23 t24 t25 t26 t27 t28 t29 t30 t31 t32 t33 t34 t35 t36 t37 t38 t39 t40 t41 t42 t43 t44 t45 t46 t47 t48 t51 t52 t53 t54 t55 t56 t57 t58 t59 t60 t61 t62 t63 t64 t65 t66 t67 t68 t69 t70 t71 t72 t73 t74 t75 t76 : Value), g = G ((Go.Conc.base 5).at ⟨#[.pointer (some ⟨A, 0, none⟩), t1, t2, .pointer (some ⟨B, 0, none⟩), .pointer (some ⟨B + 1, 0, none⟩), .pointer (some ⟨B + 2, 0, none⟩), t6, .pointer (some ⟨B + 3, 0, none⟩), t8, t9, t10, t11, t12, .pointer (some ⟨F + 1, 0, none⟩), .pointer (some ⟨F + 2, 0, none⟩), t15, t16, t17, t18, t19, t20, t21, t22, t23, t24, t25, t26, t27, t28, t29, t30, t31, t32, t33, t34, t35, t36, t37, t38, t39, t40, t41, t42, t43, t44, t45, t46, t47, t48, .int .i64 Wk, .int .i64 0, t51, t52, t53, t54, t55, t56, t57, t58, t59, t60, t61, t62, t63, t64, t65, t66, t67, t68, t69, t70, t71, t72, t73, t74, t75, t76], []⟩ [.code LL5, .inLoop LL5, .inBlock 2, .code REST20]) cs ∧
    SeeI W0 A B nmv Wk con xs v w ∧ B + 5 ≤ F ∧ w.heap.size = F + 3 ∧ (∀ g, v.ownBlock = some g → g < F) ∧
    w.heap[F]? = some (.cells (madeCells (Value.bool false).cells xs.length) 4) ∧ w.heap[F + 1]? = some (.cells #[.slice (some ⟨F, 0, none⟩) xs.length xs.length] 50) ∧ w.heap[F + 2]? = some (.cells #[.int .u64 0, .int .u32 0] 55)

section
variable {W0 : World} {A B : Nat} {nmv : Value} {Wk : Int} {con : List ByteArray} {xs : List Nat} {v : Value} {w : World}
theorem SeeI.alloc (h : SeeI W0 A B nmv Wk con xs v w) (hB : W0.heap.size = B) (o : Obj) : SeeI W0 A B nmv Wk con xs v (w.alloc o) := by
  have hlt := h.lt
  have k : ∀ b, b < w.heap.size → (w.alloc o).heap[b]? = w.heap[b]? := fun b hb => by
    show (w.heap.push o)[b]? = _
    rw [Array.getElem?_push, if_neg (by omega)]
  refine ⟨⟨h.gr.os, h.gr.tape, h.gr.output, by rw [alloc_size]; have := h.gr.size; omega, fun b hb hn => by rw [k _ (by have := h.gr.size; omega)]; exact h.gr.block b hb hn⟩, by rw [k _ (by omega)]; exact h.a, by rw [k _ (by omega)]; exact h.n, by rw [k _ (by omega)]; exact h.k, by rw [k _ (by omega)]; exact h.t, ?_, h.row.alloc o⟩
  rw [k _ (by omega)]
  exact h.m
theorem SeeI.set (h : SeeI W0 A B nmv Wk con xs v w) (hB : W0.heap.size = B) {g off : Nat} (hg : B + 5 ≤ g) (ho : v.ownBlock ≠ some g) (u : Value) : SeeI W0 A B nmv Wk con xs v (w.setCell ⟨g, off, none⟩ u) := by
  have A3 := aside_setCell w ⟨g, off, none⟩ u
  have k : ∀ b, b ≠ g → (w.setCell ⟨g, off, none⟩ u).heap[b]? = w.heap[b]? := fun b hb => A3.block b hb
  refine ⟨⟨by rw [A3.os]; exact h.gr.os, by rw [A3.tape]; exact h.gr.tape, by rw [A3.output]; exact h.gr.output, by rw [A3.size]; exact h.gr.size, fun b hb hn => by rw [k _ (by omega)]; exact h.gr.block b hb hn⟩, by rw [k _ (by omega)]; exact h.a, by rw [k _ (by omega)]; exact h.n, by rw [k _ (by omega)]; exact h.k, by rw [k _ (by omega)]; exact h.t, ?_, h.row.kept (row := some g) ⟨A3.os, A3.tape, A3.output, Nat.le_of_eq A3.size.symm, fun b _ hne => k b (fun e => hne (congrArg some e))⟩ (.inr ho)⟩
  rw [k _ (by omega)]
  exact h.m
end

section
variable {Shun : Loc → Prop} {W0 : World} {A B : Nat} {wk : Int} {nm : Nat → ByteArray} {nmp : Option Addr} {N nc nb no : Nat} {cs : List Frame}
set_option maxHeartbeats 16000000 in
/-- Behind the loop. -/
theorem seeA_mid {Wk : Int} (hB : W0.heap.size = B) (hN : N ≤ 1073741824) (hS2 : ∀ ad : Addr, B ≤ ad.block → ¬ Shun (.cell ad)) :
    ∃ m, ∀ (w : World) (v : Value) (t1 t2 t6 t9 t10 t11 t12 t13 t14 t15 t16 t17 t18 t19 t20 t21 t22 t26 t27 t28 t29 t30 t31 t32 t33 t34 t35 t36 t37 t38 t39 t40 t41 t42 t43 t44 t45 t46 t47 t48 t49 t50 t51 t52 t53 t54 t55 t56 t57 t58 t59 t60 t61 t62 t63 t64 t65 t66 t67 t68 t69 t70 t71 t72 t73 t74 t75 t76 : Value), SeeI W0 A B (.slice nmp N nc) Wk (conF nm N) (ixF nm N) v w → Goes Try.prog true AtRel (DL Shun) (SeeMid W0 A B (.slice nmp N nc) Wk (conF nm N) (ixF nm N) cs) m (G ((Go.Conc.base 5).at ⟨#[.pointer (some ⟨A, 0, none⟩), t1, t2, .pointer (some ⟨B, 0, none⟩), .pointer (some ⟨B + 1, 0, none⟩), .pointer (some ⟨B + 2, 0, none⟩), t6, .pointer (some ⟨B + 3, 0, none⟩), .map (some (B + 4)), t9, t10, t11, t12, t13, t14, t15, t16, t17, t18, t19, t20, t21, t22, .slice nmp N nc, .int .i64 (N : Int), .int .i64 (N : Int), t26, t27, t28, t29, t30, t31, t32, t33, t34, t35, t36, t37, t38, t39, t40, t41, t42, t43, t44, t45, t46, t47, t48, t49, t50, t51, t52, t53, t54, t55, t56, t57, t58, t59, t60, t61, t62, t63, t64, t65, t66, t67, t68, t69, t70, t71, t72, t73, t74, t75, t76], []⟩ [.code REST12]) cs) w := by
  have hD := dl_idle Shun
  refine ⟨100, fun w v t1 t2 t6 t9 t10 t11 t12 t13 t14 t15 t16 t17 t18 t19 t20 t21 t22 t26 t27 t28 t29 t30 t31 t32 t33 t34 t35 t36 t37 t38 t39 t40 t41 t42 t43 t44 t45 t46 t47 t48 t49 t50 t51 t52 t53 t54 t55 t56 t57 t58 t59 t60 t61 t62 t63 t64 t65 t66 t67 t68 t69 t70 t71 t72 t73 t74 t75 t76 h => ?_⟩
  have hlen := ixF_len nm N
  simp (config := { decide := true }) only [REST12, tailFrom, firstId, body5, Try.f5, Option.getD_some, Option.bind_some, reduceIte, Option.some.injEq, Nat.reduceEqDiff, reduceCtorEq]
  (refine LG.ctl hD rfl (fun _ => stepG_seq) ?_; refine LG.ctl hD rfl (fun _ => stepG_region) ?_; simp only [List.size_toArray, List.length_cons, List.length_nil, Nat.reduceAdd, Nat.zero_add, List.range, List.range.loop])
  refine LG.ld 23 (by simp) rfl rfl (by k_ne) rfl rfl (cell_h h.t rfl) (hS2 _ (by show B ≤ B + 3; omega)) ?_
  obtain ⟨p, c, hv⟩ : ∃ p c, v = .slice p (ixF nm N).length c := by
    rcases h.row.2 with ⟨e, h0⟩ | ⟨g, cap, cur, e, _⟩
    · exact ⟨none, 0, by rw [e, h0]⟩
    · exact ⟨_, _, e⟩
  subst hv
  walk_nrm
  (refine LG.value hD _ rfl rfl (by k_ne) (fun _ => by go_simp <;> rfl) (fun _ => by simp [go_sem, *]) ?_; walk_nrm)
  refine LG.mk50 rfl rfl (by k_ne) rfl rfl rfl (by omega) ?_
  generalize hF : w.heap.size = F
  walk_nrm
  refine LG.al 50 #[.slice none 0 0] (by simp) rfl rfl (by k_ne) rfl ?_
  rw [alloc_size, hF]
  walk_nrm
  have hk : ∀ (w : World) (o : Obj), w.heap.size = F + 1 → (w.alloc o).heap[F + 1]? = some o := fun w o e => by
    show (w.heap.push o)[F + 1]? = _
    rw [← e]; simp
  have s1 : (w.alloc (.cells (madeCells (Value.bool false).cells (ixF nm N).length) 4)).heap.size = F + 1 := by rw [alloc_size, hF]
  have hc1 := hk _ (.cells #[.slice none 0 0] 50) s1
  refine LG.st (ad := ⟨F + 1, 0, none⟩) (v := .slice (some ⟨F, 0, none⟩) (ixF nm N).length (ixF nm N).length) (u := .slice none 0 0) rfl rfl (by k_ne) (fun w hc hf => st_slice 50 (by simp) ⟨_, _, _, rfl⟩ rfl rfl rfl hc hf) (cell_h hc1 rfl) (by simp [World.frozen?, hc1]) (hS2 _ (by have := h.lt; show B ≤ F + 1; omega)) ?_
  walk_nrm
  (refine LG.ctl hD rfl (fun _ => stepG_region_end) ?_; refine LG.ctl hD rfl (fun _ => stepG_seq) ?_; refine LG.ctl hD rfl (fun _ => stepG_region) ?_; simp only [List.size_toArray, List.length_cons, List.length_nil, Nat.reduceAdd, Nat.zero_add, List.range, List.range.loop])
  refine LG.al 55 #[.int .u64 0, .int .u32 0] (by simp) rfl rfl (by k_ne) rfl ?_
  have hob : ∀ g, (Value.slice p (ixF nm N).length c).ownBlock = some g → g < F := fun g hg => by have := (h.row.lt g hg).2; omega
  have h1 := ((h.alloc hB (.cells (madeCells (Value.bool false).cells (ixF nm N).length) 4)).alloc hB (.cells #[.slice none 0 0] 50))
  have h2 := (h1.set hB (g := F + 1) (off := 0) (by have := h.lt; omega) (fun e => by have := hob _ e; omega) (.slice (some ⟨F, 0, none⟩) (ixF nm N).length (ixF nm N).length)).alloc hB (.cells #[.int .u64 0, .int .u32 0] 55)
  have s2 : (((w.alloc (.cells (madeCells (Value.bool false).cells (ixF nm N).length) 4)).alloc (.cells #[.slice none 0 0] 50)).setCell ⟨F + 1, 0, none⟩ (.slice (some ⟨F, 0, none⟩) (ixF nm N).length (ixF nm N).length)).heap.size = F + 2 := by rw [setCell_size, alloc_size, s1]
  rw [s2]
  generalize hw3 : ((w.alloc (.cells (madeCells (Value.bool false).cells (ixF nm N).length) 4)).alloc (.cells #[.slice none 0 0] 50)).setCell ⟨F + 1, 0, none⟩ (.slice (some ⟨F, 0, none⟩) (ixF nm N).length (ixF nm N).length) = w3 at *
  have f0 : w3.heap[F]? = some (.cells (madeCells (Value.bool false).cells (ixF nm N).length) 4) := by
    rw [← hw3, (aside_setCell _ ⟨F + 1, 0, none⟩ _).block F (by show F ≠ F + 1; omega)]
    show ((w.heap.push _).push _)[F]? = _
    rw [Array.getElem?_push, if_neg (by simp; omega), ← hF]
    simp
  have f1 : w3.heap[F + 1]? = some (.cells #[.slice (some ⟨F, 0, none⟩) (ixF nm N).length (ixF nm N).length] 50) := by
    rw [← hw3]
    have := heap_set (a := ⟨F + 1, 0, none⟩) (v := .slice (some ⟨F, 0, none⟩) (ixF nm N).length (ixF nm N).length) hc1 rfl
    simpa using this
  generalize hw4 : w3.alloc (.cells #[.int .u64 0, .int .u32 0] 55) = w4 at *
  have key : ∀ b, b < F + 2 → w4.heap[b]? = w3.heap[b]? := fun b hb => by
    rw [← hw4]
    show (w3.heap.push _)[b]? = _
    rw [Array.getElem?_push, if_neg (by omega)]
  have f2 : w4.heap[F + 2]? = some (.cells #[.int .u64 0, .int .u32 0] 55) := by
    rw [← hw4]
    show (w3.heap.push _)[F + 2]? = _
    rw [← s2]; simp
  have s4 : w4.heap.size = F + 3 := by rw [← hw4, alloc_size, s2]
  clear h1 hc1 s1 hw3 hw4
  walk_nrm
  (refine LG.ctl hD rfl (fun _ => stepG_region_end) ?_; (iterate 2 (refine LG.ctl hD rfl (fun _ => stepG_seq) ?_)); refine LG.ctl hD rfl (fun _ => stepG_region) ?_; simp only [List.size_toArray, List.length_cons, List.length_nil, Nat.reduceAdd, Nat.zero_add, List.range, List.range.loop])
  refine LG.ld 3 (by simp) rfl rfl (by k_ne) rfl rfl (cell_h h2.k rfl) (hS2 _ (by show B ≤ B + 2; omega)) ?_
  walk_nrm
  (refine LG.value hD _ rfl rfl (by k_ne) (fun _ => by go_simp <;> rfl) (fun _ => by simp [go_sem, *]) ?_; walk_nrm; refine LG.ctl hD rfl (fun _ => stepG_region_end) ?_; refine LG.ctl hD rfl (fun _ => stepG_block) ?_)
  refine LG.ctl hD rfl (fun _ => stepG_loop) ?_
  refine Goes.stop fun w₁ hr => ?_
  obtain ⟨d, rfl⟩ := hr
  have hI : SeeI W0 A B (.slice nmp N nc) Wk (conF nm N) (ixF nm N) (.slice p (ixF nm N).length c) (w4.at d) := ⟨⟨h2.gr.os, h2.gr.tape, h2.gr.output, h2.gr.size, h2.gr.block⟩, h2.a, h2.n, h2.k, h2.t, h2.m, h2.row⟩
  exact ⟨F, _, _, _, _, _, _, _, _, _, _, _, _, _, _, _, _, _, _, _, _, _, _, _, _, _, _, _, _, _, _, _, _, _, _, _, _, _, _, _, _, _, _, _, _, _, _, _, _, _, _, _, _, _, _, _, _, _, _, _, _, _, _, _, _, _, _, _, _, _, rfl, hI, by have := h.lt; omega, s4, hob, (key F (by omega)).trans f0, (key _ (by omega)).trans f1, f2⟩
theorem ev_min2 (w : World) (es : Array Event) (x y : Int) : (Builtin.min_ #[3, 3] 3 #[.int .i64 x, .int .i64 y]).events Try.prog w es = es := by
  simp [Builtin.min_, Builtin.min2, List.foldlM]
theorem ev_max2 (w : World) (es : Array Event) (x y : Int) : (Builtin.max_ #[3, 3] 3 #[.int .i64 x, .int .i64 y]).events Try.prog w es = es := by
  simp [Builtin.max_, Builtin.max2, List.foldlM]
/-- How many workers it starts. -/
def wkW (wk : Int) : Int := if (if 16 < wk then 16 else wk) > 1 then if 16 < wk then 16 else wk else 1
theorem wkW_rng (wk : Int) : 1 ≤ wkW wk ∧ wkW wk ≤ 16 := by unfold wkW; split <;> split <;> omega
set_option maxHeartbeats 16000000 in
/-- ████ See, from its entry. ████ -/
theorem seeA (hB : W0.heap.size = B) (hN : N ≤ 1073741824) (hnmp : 0 < N → nmp = some ⟨nb, no, none⟩) (hnm : ∀ k, k < N → W0.cell? ⟨nb, no + k, none⟩ = some (.string (nm k))) (hS1 : 0 < N → ∀ ad : Addr, ad.block = nb → ¬ Shun (.cell ad)) (hS2 : ∀ ad : Addr, B ≤ ad.block → ¬ Shun (.cell ad)) (hS3 : ∀ r, B ≤ r → ¬ Shun (.obj r)) :
    ∃ m, Goes Try.prog true AtRel (DL Shun) (SeeMid W0 A B (.slice nmp N nc) (wkW wk) (conF nm N) (ixF nm N) cs) m (G ((Go.Conc.base 5).at ⟨#[.pointer (some ⟨A, 0, none⟩), .slice nmp N nc, .int .i64 wk, undef, undef, undef, undef, undef, undef, undef, undef, undef, undef, undef, undef, undef, undef, undef, undef, undef, undef, undef, undef, undef, undef, undef, undef, undef, undef, undef, undef, undef, undef, undef, undef, undef, undef, undef, undef, undef, undef, undef, undef, undef, undef, undef, undef, undef, undef, undef, undef, undef, undef, undef, undef, undef, undef, undef, undef, undef, undef, undef, undef, undef, undef, undef, undef, undef, undef, undef, undef, undef, undef, undef, undef, undef, undef], []⟩ [.code body5]) cs) W0 := by
  have hD := dl_idle Shun
  have hmin := ev_min2
  have hmax := ev_max2
  obtain ⟨m, hm⟩ := seeA_loop (Wk := wkW wk) (A := A) (nc := nc) (cs := cs) hB hN hnmp hnm hS1 hS2 hS3 (seeA_mid hB hN hS2) N 0 (by omega)
  refine ⟨m + 100, ?_⟩
  simp only [body5, Try.f5, Option.getD_some]
  (refine LG.ctl hD rfl (fun _ => stepG_seq) ?_; refine LG.ctl hD rfl (fun _ => stepG_region) ?_; simp only [List.size_toArray, List.length_cons, List.length_nil, Nat.reduceAdd, Nat.zero_add, List.range, List.range.loop])
  refine LG.box 24 (by simp) (.inr (.inl ⟨_, rfl⟩)) rfl rfl (by k_ne) rfl rfl ?_
  generalize hw1 : W0.alloc (.cells #[.pointer (some ⟨A, 0, none⟩)] 24) = w1
  rw [hB]
  walk_nrm
  refine LG.box 26 (by simp) (.inr (.inr ⟨_, _, _, rfl⟩)) rfl rfl (by k_ne) rfl rfl ?_
  have s1 : w1.heap.size = B + 1 := by rw [← hw1, alloc_size, hB]
  generalize hw2 : w1.alloc (.cells #[.slice nmp N nc] 26) = w2
  rw [s1]
  walk_nrm
  refine LG.box 3 (by simp) (.inl ⟨_, rfl⟩) rfl rfl (by k_ne) rfl rfl ?_
  have s2 : w2.heap.size = B + 2 := by rw [← hw2, alloc_size, s1]
  generalize hw3 : w2.alloc (.cells #[.int .i64 wk] 3) = w3
  rw [s2]
  have s3 : w3.heap.size = B + 3 := by rw [← hw3, alloc_size, s2]
  have push : ∀ (w : World) (o : Obj) (b : Nat), (w.alloc o).heap[b]? = if b = w.heap.size then some o else w.heap[b]? := fun w o b => Array.getElem?_push
  have c2 : w3.heap[B + 2]? = some (.cells #[.int .i64 wk] 3) := by rw [← hw3, push, if_pos s2.symm]
  walk_nrm
  (refine LG.value hD _ rfl rfl (by k_ne) (fun _ => by go_simp <;> rfl) (fun _ => by simp [go_sem, *]) ?_; walk_nrm; refine LG.ctl hD rfl (fun _ => stepG_region_end) ?_; refine LG.ctl hD rfl (fun _ => stepG_seq) ?_; refine LG.ctl hD rfl (fun _ => stepG_region) ?_; simp only [List.size_toArray, List.length_cons, List.length_nil, Nat.reduceAdd, Nat.zero_add, List.range, List.range.loop])
  refine LG.ld 3 (by simp) rfl rfl (by k_ne) rfl rfl (cell_h c2 rfl) (hS2 _ (by show B ≤ B + 2; omega)) ?_
  walk_nrm
  ((iterate 2 (refine LG.value hD _ rfl rfl (by k_ne) (fun _ => by go_simp <;> rfl) (fun _ => by simp [go_sem, *]) ?_; walk_nrm)))
  rw [show (if (if 16 < wk then 16 else wk) > 1 then if 16 < wk then 16 else wk else 1) = wkW wk from rfl]
  generalize (if 16 < wk then 16 else wk) = w20
  refine LG.st (ad := ⟨B + 2, 0, none⟩) (v := .int .i64 (wkW wk)) (u := .int .i64 wk) rfl rfl (by k_ne) (fun w hc hf => st_int rfl rfl rfl hc hf) (cell_h c2 rfl) (by simp [World.frozen?, c2]) (hS2 _ (by show B ≤ B + 2; omega)) ?_
  have c3 := heap_set (w := w3) (a := ⟨B + 2, 0, none⟩) (v := .int .i64 (wkW wk)) c2 rfl
  have hblk := (aside_setCell w3 ⟨B + 2, 0, none⟩ (.int .i64 (wkW wk)))
  generalize hw4 : w3.setCell ⟨B + 2, 0, none⟩ (.int .i64 (wkW wk)) = w4 at *
  have s4 : w4.heap.size = B + 3 := by rw [← hw4, setCell_size, s3]
  walk_nrm
  (refine LG.ctl hD rfl (fun _ => stepG_region_end) ?_; refine LG.ctl hD rfl (fun _ => stepG_seq) ?_; refine LG.ctl hD rfl (fun _ => stepG_region) ?_; simp only [List.size_toArray, List.length_cons, List.length_nil, Nat.reduceAdd, Nat.zero_add, List.range, List.range.loop])
  refine LG.al 23 #[.slice none 0 0] (by simp) rfl rfl (by k_ne) rfl ?_
  rw [s4]
  generalize hw5 : w4.alloc (.cells #[.slice none 0 0] 23) = w5
  have s5 : w5.heap.size = B + 4 := by rw [← hw5, alloc_size, s4]
  walk_nrm
  (refine LG.ctl hD rfl (fun _ => stepG_region_end) ?_; refine LG.ctl hD rfl (fun _ => stepG_seq) ?_; refine LG.ctl hD rfl (fun _ => stepG_region) ?_; simp only [List.size_toArray, List.length_cons, List.length_nil, Nat.reduceAdd, Nat.zero_add, List.range, List.range.loop])
  refine LG.mm rfl rfl (by k_ne) rfl ?_
  rw [s5]
  generalize hw6 : w5.alloc (.map #[] 0) = w6
  have s6 : w6.heap.size = B + 5 := by rw [← hw6, alloc_size, s5]
  have p1 : w6.heap[B + 1]? = some (.cells #[.slice nmp N nc] 26) := by
    rw [← hw6, push, if_neg (by omega), ← hw5, push, if_neg (by omega), hblk.block _ (by show B + 1 ≠ B + 2; omega), ← hw3, push, if_neg (by omega), ← hw2, push, if_pos s1.symm]
  have p0 : w6.heap[B]? = some (.cells #[.pointer (some ⟨A, 0, none⟩)] 24) := by
    rw [← hw6, push, if_neg (by omega), ← hw5, push, if_neg (by omega), hblk.block _ (by show B ≠ B + 2; omega), ← hw3, push, if_neg (by omega), ← hw2, push, if_neg (by omega), ← hw1, push, if_pos hB.symm]
  have p2 : w6.heap[B + 2]? = some (.cells #[.int .i64 (wkW wk)] 3) := by
    rw [← hw6, push, if_neg (by omega), ← hw5, push, if_neg (by omega)]
    simpa using c3
  have p3 : w6.heap[B + 3]? = some (.cells #[.slice none 0 0] 23) := by
    rw [← hw6, push, if_neg (by omega), ← hw5, push, if_pos s4.symm]
  have p4 : w6.heap[B + 4]? = some (.map #[] 0) := by rw [← hw6, push, if_pos s5.symm]
  have pg : W0.grownBy w6 none := by
    refine ⟨?_, ?_, ?_, by omega, fun b hb _ => ?_⟩
    · rw [← hw6]; show w5.os = _; rw [← hw5]; show w4.os = _; rw [hblk.os, ← hw3]; show w2.os = _; rw [← hw2]; show w1.os = _; rw [← hw1]; rfl
    · rw [← hw6]; show w5.tape = _; rw [← hw5]; show w4.tape = _; rw [hblk.tape, ← hw3]; show w2.tape = _; rw [← hw2]; show w1.tape = _; rw [← hw1]; rfl
    · rw [← hw6]; show w5.output = _; rw [← hw5]; show w4.output = _; rw [hblk.output, ← hw3]; show w2.output = _; rw [← hw2]; show w1.output = _; rw [← hw1]; rfl
    · rw [← hw6, push, if_neg (by omega), ← hw5, push, if_neg (by omega), hblk.block _ (by show b ≠ B + 2; omega), ← hw3, push, if_neg (by omega), ← hw2, push, if_neg (by omega), ← hw1, push, if_neg (by omega)]
  have hI : SeeI W0 A B (.slice nmp N nc) (wkW wk) (conF nm 0) (ixF nm 0) (.slice none 0 0) w6 := ⟨pg, p0, p1, p2, p3, ⟨_, _, p4, rfl⟩, World.ownsRow_nil _ _ _ _⟩
  clear p0 p1 p2 p3 p4 pg c3 hblk hw1 hw2 hw3 hw4 hw5 hw6 push c2
  walk_nrm
  (refine LG.value hD _ rfl rfl (by k_ne) (fun _ => by go_simp <;> rfl) (fun _ => by simp [go_sem, *]) ?_; walk_nrm; refine LG.ctl hD rfl (fun _ => stepG_region_end) ?_; (iterate 2 (refine LG.ctl hD rfl (fun _ => stepG_seq) ?_)); refine LG.ctl hD rfl (fun _ => stepG_region) ?_; simp only [List.size_toArray, List.length_cons, List.length_nil, Nat.reduceAdd, Nat.zero_add, List.range, List.range.loop])
  refine LG.ld 26 (by simp) rfl rfl (by k_ne) rfl rfl (cell_h hI.n rfl) (hS2 _ (by show B ≤ B + 1; omega)) ?_
  walk_nrm
  ((iterate 2 (refine LG.value hD _ rfl rfl (by k_ne) (fun _ => by go_simp <;> rfl) (fun _ => by simp [go_sem, *]) ?_; walk_nrm)); refine LG.ctl hD rfl (fun _ => stepG_region_end) ?_; refine LG.ctl hD rfl (fun _ => stepG_block) ?_)
  refine LG.ctl hD rfl (fun _ => stepG_loop) ?_
  exact Go.ConcM.goes_le (n := m) (by omega) (hm _ _ _ _ _ _ _ _ _ _ _ _ _ _ _ _ _ _ _ _ _ _ _ _ _ _ _ _ _ _ _ _ _ _ _ _ _ _ _ _ _ _ _ _ _ _ _ _ _ _ _ _ _ _ _ _ _ _ _ _ _ _ _ _ _ _ _ _ _ _ hI)
end
end Go.Proofs.Ytnlopklbbajlbaa.Sw
