/- The law FrameCleans: its walk. -/
import Derived.Test.YtegnjiecninlaaaDoorCleaned
import Derived.Test.YtegnjiecninlaaaDoorCoded4
import Derived.Test.YtegnjiecninlaaaDoorPicArg
namespace Go.Proofs.YtegnjiecninlaaaDoor
open Go.RowKit

/-- small, whatever the pointer. -/
theorem small_is {w : World} {x : Option Addr} (h : PicP w x) : ∃ s : Bool, (∀ W, Below w.heap.size w W → Calls Tryd.prog 26 #[.pointer x] W fun e w' => e = .returned (.bool s) ∧ W = w') ∧ (s = true → ∃ b o W H a n cap f, x = some ⟨b, o, none⟩ ∧ n ≤ 700 ∧ In64 W ∧ In64 H ∧ PicAt w b o W H a n cap f) := by
  rcases h with rfl | ⟨b, o, W, H, a, n, cap, f, rfl, hn, iw, ih, hp⟩
  · exact ⟨false, fun W _ => small_nil W, fun h => by cases h⟩
  · exact ⟨decide ((n : Int) ≤ 700), fun W' hb => small_pic b o W H f a n cap W' (hp.below hb), fun h => ⟨b, o, W, H, a, n, cap, f, rfl, by have := of_decide_eq_true h; omega, iw, ih, hp⟩⟩

set_option maxRecDepth 20000 in
theorem cleans_short (ad : Nat → Addr) (x0 x1 x2 : Option Addr) (full : Int) (w : World) (hS : Sents w ad) (s0 s1 s2 : Bool) (hs : ¬ (s0 = true ∧ s1 = true ∧ s2 = true))
    (h0 : ∀ W, Below w.heap.size w W → Calls Tryd.prog 26 #[.pointer x0] W fun e w' => e = .returned (.bool s0) ∧ W = w')
    (h1 : ∀ W, Below w.heap.size w W → Calls Tryd.prog 26 #[.pointer x1] W fun e w' => e = .returned (.bool s1) ∧ W = w')
    (h2 : ∀ W, Below w.heap.size w W → Calls Tryd.prog 26 #[.pointer x2] W fun e w' => e = .returned (.bool s2) ∧ W = w') :
    Calls Tryd.prog 6 #[.pointer x0, .pointer x1, .pointer x2, .int .i64 full] w fun e w' => e = .returned (.bool true) ∧ Below w.heap.size w w' := by
  have HF := Lib.hid (framed_any ad w (hS.errs _ (by decide)))
  have H0 := Lib.hid h0
  have H1 := Lib.hid h1
  have H2 := Lib.hid h2
  clear hS h0 h1 h2
  go_enter Tryd.func6, Tryd.ntmps6
  go_wp2_with fail
  refine HF.out.mono ?_; rintro e w1 ⟨rfl, hb1⟩
  have HB1 := Lib.hid hb1
  clear hb1
  go_wp2_with fail
  refine (H0.out _ HB1.out).mono ?_; rintro e w2 ⟨rfl, rfl⟩
  go_wp2_with fail
  refine (H1.out _ HB1.out).mono ?_; rintro e w2 ⟨rfl, rfl⟩
  go_wp2_with fail
  refine (H2.out _ HB1.out).mono ?_; rintro e w2 ⟨rfl, rfl⟩
  clear H0 H1 H2 HF
  cases s0 <;> cases s1 <;> cases s2
  case true.true.true => exact absurd ⟨rfl, rfl, rfl⟩ hs
  all_goals
    clear hs
    go_wp2
    go_ret
    exact ⟨rfl, HB1.out⟩

theorem bel_alloc {w W : World} (X : Below w.heap.size w W) (o : Obj) : Below w.heap.size w (W.alloc o) := X.alloc X.size o
theorem bel_store {w W : World} (X : Below w.heap.size w W) {b i j k : Nat} (hb : w.heap.size ≤ b) (u v z : Value) : Below w.heap.size w (((W.setCell ⟨b, i, none⟩ u).setCell ⟨b, j, none⟩ v).setCell ⟨b, k, none⟩ z) := ((X.setCell hb u).setCell hb v).setCell hb z

theorem set3 {W : World} {k : Nat} {u0 u1 u2 : Value} (h0 : W.cell? ⟨k, 0, none⟩ = some u0) (h1 : W.cell? ⟨k, 1, none⟩ = some u1) (h2 : W.cell? ⟨k, 2, none⟩ = some u2) (x y z : Value) :
    (((W.setCell ⟨k, 0, none⟩ x).setCell ⟨k, 1, none⟩ y).setCell ⟨k, 2, none⟩ z).cell? ⟨k, 0, none⟩ = some x ∧ (((W.setCell ⟨k, 0, none⟩ x).setCell ⟨k, 1, none⟩ y).setCell ⟨k, 2, none⟩ z).cell? ⟨k, 1, none⟩ = some y ∧ (((W.setCell ⟨k, 0, none⟩ x).setCell ⟨k, 1, none⟩ y).setCell ⟨k, 2, none⟩ z).cell? ⟨k, 2, none⟩ = some z := by
  have e1 : (W.setCell ⟨k, 0, none⟩ x).cell? ⟨k, 0, none⟩ = some x := World.cell?_setCell_same _ _ _ h0
  have e2 : (W.setCell ⟨k, 0, none⟩ x).cell? ⟨k, 1, none⟩ = some u1 := by rw [World.cell?_setCell_other _ _ _ _ (by simp)]; exact h1
  have e3 : ((W.setCell ⟨k, 0, none⟩ x).setCell ⟨k, 1, none⟩ y).cell? ⟨k, 2, none⟩ = some u2 := by rw [World.cell?_setCell_other _ _ _ _ (by simp), World.cell?_setCell_other _ _ _ _ (by simp)]; exact h2
  refine ⟨?_, ?_, World.cell?_setCell_same _ _ _ e3⟩
  · rw [World.cell?_setCell_other _ _ _ _ (by simp), World.cell?_setCell_other _ _ _ _ (by simp)]; exact e1
  · rw [World.cell?_setCell_other _ _ _ _ (by simp)]; exact World.cell?_setCell_same _ _ _ e2
theorem fresh3 {W W2 : World} {u0 u1 u2 : Value} {T : TypeId} {k : Nat} (hk : W.heap.size = k) (hb : Below (W.alloc (.cells #[u0, u1, u2] T)).heap.size (W.alloc (.cells #[u0, u1, u2] T)) W2) :
    W2.cell? ⟨k, 0, none⟩ = some u0 ∧ W2.cell? ⟨k, 1, none⟩ = some u1 ∧ W2.cell? ⟨k, 2, none⟩ = some u2 ∧ W2.frozen? ⟨k, 0, none⟩ = false ∧ W2.frozen? ⟨k, 1, none⟩ = false ∧ W2.frozen? ⟨k, 2, none⟩ = false := by
  subst hk
  have hl : ∀ j, (⟨W.heap.size, j, none⟩ : Addr).block < (W.alloc (.cells #[u0, u1, u2] T)).heap.size := fun j => by simp
  have hf : ∀ j, (W.alloc (.cells #[u0, u1, u2] T)).frozen? ⟨W.heap.size, j, none⟩ = false := fun j => frozen_of_row _ _ j _ T (heap_alloc_new W (.cells #[u0, u1, u2] T))
  refine ⟨?_, ?_, ?_, ?_, ?_, ?_⟩
  · rw [hb.cell (hl 0)]; simp
  · rw [hb.cell (hl 1)]; simp
  · rw [hb.cell (hl 2)]; simp
  · rw [hb.frozen (hl 0)]; exact hf 0
  · rw [hb.frozen (hl 1)]; exact hf 1
  · rw [hb.frozen (hl 2)]; exact hf 2

/-- The three pictures' cells, all through. -/
theorem pics_cells {w w' : World} {b0 o0 b1 o1 b2 o2 : Nat} {W0 H0 W1 H1 W2 H2 : Int} {a0 a1 a2 : Option Addr} {n0 n1 n2 c0 c1 c2 : Nat} {f0 f1 f2 : Nat → Int} (h : Pics w b0 o0 b1 o1 b2 o2 W0 H0 W1 H1 W2 H2 a0 a1 a2 n0 n1 n2 c0 c1 c2 f0 f1 f2) (hb : Below w.heap.size w w') :
    w'.cell? ⟨b0, o0, none⟩ = some (.int .i64 W0) ∧ w'.cell? ⟨b0, o0 + 1, none⟩ = some (.int .i64 H0) ∧ w'.cell? ⟨b0, o0 + 2, none⟩ = some (.slice a0 n0 c0) ∧ w'.cell? ⟨b1, o1, none⟩ = some (.int .i64 W1) ∧ w'.cell? ⟨b1, o1 + 1, none⟩ = some (.int .i64 H1) ∧ w'.cell? ⟨b1, o1 + 2, none⟩ = some (.slice a1 n1 c1) ∧ w'.cell? ⟨b2, o2, none⟩ = some (.int .i64 W2) ∧ w'.cell? ⟨b2, o2 + 1, none⟩ = some (.int .i64 H2) ∧ w'.cell? ⟨b2, o2 + 2, none⟩ = some (.slice a2 n2 c2) := by
  have h := h.below hb
  exact ⟨h.1.1, h.1.2.1, h.1.2.2.1, h.2.1.1, h.2.1.2.1, h.2.1.2.2.1, h.2.2.1, h.2.2.2.1, h.2.2.2.2.1⟩

set_option maxRecDepth 20000 in
theorem cleans_err (ad : Nat → Addr) (i : Nat) (hi : i < 10) (b0 o0 b1 o1 b2 o2 : Nat) (W0 H0 W1 H1 W2 H2 full : Int) (f0 f1 f2 : Nat → Int) (a0 a1 a2 : Option Addr) (n0 n1 n2 c0 c1 c2 : Nat) (w : World) (hS : Sents w ad) (h : Pics w b0 o0 b1 o1 b2 o2 W0 H0 W1 H1 W2 H2 a0 a1 a2 n0 n1 n2 c0 c1 c2 f0 f1 f2) (s0 : n0 ≤ 700) (s1 : n1 ≤ 700) (s2 : n2 ≤ 700)
    (hC : ∀ W, Errs W ad [1, 4] → IRow W a0 n0 f0 → IRow W a1 n1 f1 → IRow W a2 n2 f2 → Calls Tryd.prog 27 #[.agg #[.int .i64 W1, .int .i64 H1, .slice a1 n1 c1, .int .i64 W2, .int .i64 H2, .slice a2 n2 c2, .int .i64 full], .agg #[.int .i64 W0, .int .i64 H0, .slice a0 n0 c0]] W fun e w' => e = .returned (.tuple #[.agg #[.int .i64 0, .int .i64 0, .slice none 0 0], .slice none 0 0, errV ad i]) ∧ Below W.heap.size W w')
    (hD : ∀ W, Pics W b0 o0 b1 o1 b2 o2 W0 H0 W1 H1 W2 H2 a0 a1 a2 n0 n1 n2 c0 c1 c2 f0 f1 f2 → Calls Tryd.prog 28 #[.pointer (some ⟨b0, o0, none⟩), .pointer (some ⟨b1, o1, none⟩), .pointer (some ⟨b2, o2, none⟩), .int .i64 full] W fun e w' => e = .returned (.tuple #[.slice none 0 0, .slice none 0 0, .int .i64 (i + 1 : Nat)]) ∧ Below W.heap.size W w') :
    Calls Tryd.prog 6 #[.pointer (some ⟨b0, o0, none⟩), .pointer (some ⟨b1, o1, none⟩), .pointer (some ⟨b2, o2, none⟩), .int .i64 full] w fun e w' => e = .returned (.bool true) ∧ Below w.heap.size w w' := by
  have HF := Lib.hid (framed_any ad w (hS.errs _ (by decide)))
  have HS := Lib.hid hS
  have HP := Lib.hid h
  have HC := Lib.hid (fun W (hb : Below w.heap.size w W) => hC W ((hS.below hb).errs _ (by decide)) (h.below hb).1.2.2.2 (h.below hb).2.1.2.2.2 (h.below hb).2.2.2.2.2)
  have HD := Lib.hid (fun W (hb : Below w.heap.size w W) => hD W (h.below hb))
  have HE := Lib.hid (fun W (hb : Below w.heap.size w W) => coded4_err ad i (i + 1 : Nat) hi (by omega) W (hS.below hb))
  have d0 : decide ((n0 : Int) ≤ 700) = true := by simp; omega
  have d1 : decide ((n1 : Int) ≤ 700) = true := by simp; omega
  have d2 : decide ((n2 : Int) ≤ 700) = true := by simp; omega
  have dp : decide ((0 : Int) < (i + 1 : Nat)) = true := by simp <;> omega
  unfold errV at HC HE
  clear hS h hC hD s0 s1 s2
  go_enter Tryd.func6, Tryd.ntmps6
  go_wp2_with fail
  refine HF.out.mono ?_; rintro e w1 ⟨rfl, hb1⟩
  have HB1 := Lib.hid hb1
  clear hb1 HF
  go_wp2_with fail
  refine (small_pic b0 o0 W0 H0 f0 a0 n0 c0 _ (HP.out.below HB1.out).1).mono ?_; rintro e w2 ⟨rfl, rfl⟩
  rw [d0]
  go_wp2_with fail
  refine (small_pic b1 o1 W1 H1 f1 a1 n1 c1 _ (HP.out.below HB1.out).2.1).mono ?_; rintro e w2 ⟨rfl, rfl⟩
  rw [d1]
  go_wp2_with fail
  refine (small_pic b2 o2 W2 H2 f2 a2 n2 c2 _ (HP.out.below HB1.out).2.2).mono ?_; rintro e w2 ⟨rfl, rfl⟩
  rw [d2]
  clear d0 d1 d2
  go_wp2
  have hsz := HB1.out.size
  have HCell := Lib.hid (fun W (hb : Below w.heap.size w W) => pics_cells HP.out hb)
  obtain ⟨k0, k1, k2, k3, k4, k5, k6, k7, k8⟩ := HCell.out _ HB1.out
  go_region_held3 (fun w' => w'.cell? ⟨b0, o0, none⟩ = some (.int .i64 W0) ∧ w'.cell? ⟨b0, o0 + 1, none⟩ = some (.int .i64 H0) ∧ w'.cell? ⟨b0, o0 + 2, none⟩ = some (.slice a0 n0 c0) ∧ w'.cell? ⟨b1, o1, none⟩ = some (.int .i64 W1) ∧ w'.cell? ⟨b1, o1 + 1, none⟩ = some (.int .i64 H1) ∧ w'.cell? ⟨b1, o1 + 2, none⟩ = some (.slice a1 n1 c1) ∧ w'.cell? ⟨b2, o2, none⟩ = some (.int .i64 W2) ∧ w'.cell? ⟨b2, o2 + 1, none⟩ = some (.int .i64 H2) ∧ w'.cell? ⟨b2, o2 + 2, none⟩ = some (.slice a2 n2 c2))
    (first | (exact HCell.out _ HB1.out) | (exact HCell.out _ HB1.out.drew) | (exact HCell.out _ (bel_alloc HB1.out.drew _)) | (exact HCell.out _ (below_step HB1.out.drew hb2)) | (exact HCell.out _ (bel_alloc (below_step HB1.out.drew hb2) _)) | (exact HCell.out _ (below_step (bel_alloc HB1.out.drew _) hb2)) | (exact HCell.out _ (bel_store (bel_alloc (below_step HB1.out.drew hb2) _) (below_step HB1.out.drew hb2).size _ _ _)) | (exact HCell.out _ (bel_store (below_step (bel_alloc HB1.out.drew _) hb2) HB1.out.size _ _ _)) | assumption)
    (first | (go_at_call 27; refine (HC.out _ HB1.out.drew).mono ?_; rintro e w2 ⟨rfl, hb2⟩) | (go_at_call 27; refine (HC.out _ (bel_alloc HB1.out.drew _)).mono ?_; rintro e w2 ⟨rfl, hb2⟩; obtain ⟨q0, q1, q2, z0, z1, z2⟩ := fresh3 (W := w1.drew) (k := w1.heap.size) rfl hb2))
  --TAILS
  · have hA : Below w.heap.size w (w2.alloc (Obj.cells #[.int .i64 0, .int .i64 0, .slice none 0 0] 48)) ∧ (w2.alloc (Obj.cells #[.int .i64 0, .int .i64 0, .slice none 0 0] 48)).cell? ⟨w2.heap.size, 0, none⟩ = some (.int .i64 0) ∧ (w2.alloc (Obj.cells #[.int .i64 0, .int .i64 0, .slice none 0 0] 48)).cell? ⟨w2.heap.size, 1, none⟩ = some (.int .i64 0) ∧ (w2.alloc (Obj.cells #[.int .i64 0, .int .i64 0, .slice none 0 0] 48)).cell? ⟨w2.heap.size, 2, none⟩ = some (.slice none 0 0) := ⟨bel_alloc (below_step HB1.out.drew hb2) _, by simp, by simp, by simp⟩
    clear hb2 hsz HCell k0 k1 k2 k3 k4 k5 k6 k7 k8 HC HB1
    obtain ⟨hX, y0, y1, y2⟩ := hA
    generalize w2.alloc (Obj.cells #[.int .i64 0, .int .i64 0, .slice none 0 0] 48) = X at *
    generalize w2.heap.size = k at *
    have hk := cell_lt y0
    have HX := Lib.hid hX
    have HY := Lib.hid (fun (W : World) (hb : Below X.heap.size X W) => (show W.cell? ⟨k, 0, none⟩ = some (.int .i64 0) ∧ W.cell? ⟨k, 1, none⟩ = some (.int .i64 0) ∧ W.cell? ⟨k, 2, none⟩ = some (.slice none 0 0) from ⟨by rw [hb.cell (p := ⟨k, 0, none⟩) hk]; exact y0, by rw [hb.cell (p := ⟨k, 1, none⟩) hk]; exact y1, by rw [hb.cell (p := ⟨k, 2, none⟩) hk]; exact y2⟩))
    clear hX y0 y1 y2 hk
    go_wp2_with fail
    refine (HD.out _ HX.out).mono ?_; rintro e w3 ⟨rfl, hb3⟩
    have HX3 := Lib.hid hb3
    clear hb3 HD
    go_wp2_with fail
    refine (HE.out _ (below_step HX.out HX3.out)).mono ?_; rintro e w4 ⟨rfl, hb4⟩
    have HX4 := Lib.hid (below_step HX3.out hb4)
    clear hb4 HE HX3
    obtain ⟨y0, y1, y2⟩ := HY.out _ HX4.out
    go_wp2_with fail
    refine (sameInts_any (fun _ => 0) (fun _ => 0) none none 0 0 0 (by decide) _ (Or.inl rfl) (Or.inl rfl) (fun j hj => absurd hj (Nat.not_lt_zero _))).mono ?_; rintro e w5 ⟨rfl, hb5⟩
    have HX5 := Lib.hid (below_step HX4.out hb5)
    clear hb5 HX4 y0 y1 y2
    go_wp2_with fail
    refine (sameInts_any (fun _ => 0) (fun _ => 0) none none 0 0 0 (by decide) _ (Or.inl rfl) (Or.inl rfl) (fun j hj => absurd hj (Nat.not_lt_zero _))).mono ?_; rintro e w6 ⟨rfl, hb6⟩
    have HX6 := Lib.hid (below_step HX5.out hb6)
    clear hb6 HX5
    obtain ⟨y0, y1, y2⟩ := HY.out _ HX6.out
    go_wp2
    go_quiet (fail)
    go_wp2
    go_ret
    exact ⟨rfl, below_drewN (below_step HX.out HX6.out) _⟩
  · have hA : Below w.heap.size w (((w2.setCell ⟨w1.heap.size, 0, none⟩ (.int .i64 0)).setCell ⟨w1.heap.size, 1, none⟩ (.int .i64 0)).setCell ⟨w1.heap.size, 2, none⟩ (.slice none 0 0)) ∧ (((w2.setCell ⟨w1.heap.size, 0, none⟩ (.int .i64 0)).setCell ⟨w1.heap.size, 1, none⟩ (.int .i64 0)).setCell ⟨w1.heap.size, 2, none⟩ (.slice none 0 0)).cell? ⟨w1.heap.size, 0, none⟩ = some (.int .i64 0) ∧ (((w2.setCell ⟨w1.heap.size, 0, none⟩ (.int .i64 0)).setCell ⟨w1.heap.size, 1, none⟩ (.int .i64 0)).setCell ⟨w1.heap.size, 2, none⟩ (.slice none 0 0)).cell? ⟨w1.heap.size, 1, none⟩ = some (.int .i64 0) ∧ (((w2.setCell ⟨w1.heap.size, 0, none⟩ (.int .i64 0)).setCell ⟨w1.heap.size, 1, none⟩ (.int .i64 0)).setCell ⟨w1.heap.size, 2, none⟩ (.slice none 0 0)).cell? ⟨w1.heap.size, 2, none⟩ = some (.slice none 0 0) := ⟨bel_store (below_step (bel_alloc HB1.out.drew _) hb2) HB1.out.size _ _ _, set3 q0 q1 q2 _ _ _⟩
    clear hb2 hsz HCell k0 k1 k2 k3 k4 k5 k6 k7 k8 HC HB1 q0 q1 q2 z0 z1 z2
    obtain ⟨hX, y0, y1, y2⟩ := hA
    generalize ((w2.setCell ⟨w1.heap.size, 0, none⟩ (.int .i64 0)).setCell ⟨w1.heap.size, 1, none⟩ (.int .i64 0)).setCell ⟨w1.heap.size, 2, none⟩ (.slice none 0 0) = X at *
    generalize w1.heap.size = k at *
    have hk := cell_lt y0
    have HX := Lib.hid hX
    have HY := Lib.hid (fun (W : World) (hb : Below X.heap.size X W) => (show W.cell? ⟨k, 0, none⟩ = some (.int .i64 0) ∧ W.cell? ⟨k, 1, none⟩ = some (.int .i64 0) ∧ W.cell? ⟨k, 2, none⟩ = some (.slice none 0 0) from ⟨by rw [hb.cell (p := ⟨k, 0, none⟩) hk]; exact y0, by rw [hb.cell (p := ⟨k, 1, none⟩) hk]; exact y1, by rw [hb.cell (p := ⟨k, 2, none⟩) hk]; exact y2⟩))
    clear hX y0 y1 y2 hk
    go_wp2_with fail
    refine (HD.out _ HX.out).mono ?_; rintro e w3 ⟨rfl, hb3⟩
    have HX3 := Lib.hid hb3
    clear hb3 HD
    go_wp2_with fail
    refine (HE.out _ (below_step HX.out HX3.out)).mono ?_; rintro e w4 ⟨rfl, hb4⟩
    have HX4 := Lib.hid (below_step HX3.out hb4)
    clear hb4 HE HX3
    obtain ⟨y0, y1, y2⟩ := HY.out _ HX4.out
    go_wp2_with fail
    refine (sameInts_any (fun _ => 0) (fun _ => 0) none none 0 0 0 (by decide) _ (Or.inl rfl) (Or.inl rfl) (fun j hj => absurd hj (Nat.not_lt_zero _))).mono ?_; rintro e w5 ⟨rfl, hb5⟩
    have HX5 := Lib.hid (below_step HX4.out hb5)
    clear hb5 HX4 y0 y1 y2
    go_wp2_with fail
    refine (sameInts_any (fun _ => 0) (fun _ => 0) none none 0 0 0 (by decide) _ (Or.inl rfl) (Or.inl rfl) (fun j hj => absurd hj (Nat.not_lt_zero _))).mono ?_; rintro e w6 ⟨rfl, hb6⟩
    have HX6 := Lib.hid (below_step HX5.out hb6)
    clear hb6 HX5
    obtain ⟨y0, y1, y2⟩ := HY.out _ HX6.out
    go_wp2
    go_quiet (fail)
    go_wp2
    go_ret
    exact ⟨rfl, below_drewN (below_step HX.out HX6.out) _⟩
  --END
end Go.Proofs.YtegnjiecninlaaaDoor
