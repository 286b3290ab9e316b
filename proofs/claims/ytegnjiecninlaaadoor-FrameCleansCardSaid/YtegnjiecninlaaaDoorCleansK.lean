/- The law FrameCleans: its walk where the pictures are right and fit. -/
import Derived.Test.YtegnjiecninlaaaDoorCleansW
import Derived.Test.YtegnjiecninlaaaDoorCleanM
namespace Go.Proofs.YtegnjiecninlaaaDoor
open Go.RowKit

theorem IRow.stored3 {W : World} {a : Option Addr} {n : Nat} {f : Nat → Int} (h : IRow W a n f) {k : Nat} (hl : Low (k + 1) a) (x y z : Value) :
    IRow (((W.setCell ⟨k, 0, none⟩ x).setCell ⟨k, 1, none⟩ y).setCell ⟨k, 2, none⟩ z) a n f := by
  rcases h with h | ⟨b, off, e, hc⟩
  · exact Or.inl h
  · have hb : k + 1 ≤ b := hl _ e
    have hne : ∀ i j, (⟨b, off + j, none⟩ : Addr) ≠ ⟨k, i, none⟩ := fun i j e => by injection e; omega
    refine Or.inr ⟨b, off, e, fun j hj => ?_⟩
    rw [World.cell?_setCell_other _ _ _ _ (by first | exact hne _ _ | exact (hne _ _).symm), World.cell?_setCell_other _ _ _ _ (by first | exact hne _ _ | exact (hne _ _).symm), World.cell?_setCell_other _ _ _ _ (by first | exact hne _ _ | exact (hne _ _).symm)]
    exact hc j hj

set_option maxRecDepth 20000 in
theorem cleans_ok (ad : Nat → Addr) (g l : Nat → Int) (m : Nat) (hm : m ≤ 1000000) (b0 o0 b1 o1 b2 o2 : Nat) (W0 H0 W1 H1 W2 H2 full : Int) (f0 f1 f2 : Nat → Int) (a0 a1 a2 : Option Addr) (n0 n1 n2 c0 c1 c2 : Nat) (w : World) (hS : Sents w ad) (h : Pics w b0 o0 b1 o1 b2 o2 W0 H0 W1 H1 W2 H2 a0 a1 a2 n0 n1 n2 c0 c1 c2 f0 f1 f2) (s0 : n0 ≤ 700) (s1 : n1 ≤ 700) (s2 : n2 ≤ 700)
    (hC : ∀ W, Errs W ad [1, 4] → IRow W a0 n0 f0 → IRow W a1 n1 f1 → IRow W a2 n2 f2 → Calls Tryd.prog 27 #[.agg #[.int .i64 W1, .int .i64 H1, .slice a1 n1 c1, .int .i64 W2, .int .i64 H2, .slice a2 n2 c2, .int .i64 full], .agg #[.int .i64 W0, .int .i64 H0, .slice a0 n0 c0]] W fun e w' => ∃ a b ca cb, e = .returned (.tuple #[.agg #[.int .i64 W0, .int .i64 H0, .slice a n0 ca], .slice b m cb, .nilIface]) ∧ IRow w' a n0 g ∧ IRow w' b m l ∧ Below W.heap.size W w' ∧ Low W.heap.size a ∧ Low W.heap.size b)
    (hD : ∀ W, Pics W b0 o0 b1 o1 b2 o2 W0 H0 W1 H1 W2 H2 a0 a1 a2 n0 n1 n2 c0 c1 c2 f0 f1 f2 → Calls Tryd.prog 28 #[.pointer (some ⟨b0, o0, none⟩), .pointer (some ⟨b1, o1, none⟩), .pointer (some ⟨b2, o2, none⟩), .int .i64 full] W fun e w' => ∃ a b ca cb, e = .returned (.tuple #[.slice a n0 ca, .slice b m cb, .int .i64 0]) ∧ IRow w' a n0 g ∧ IRow w' b m l ∧ Below W.heap.size W w') :
    Calls Tryd.prog 6 #[.pointer (some ⟨b0, o0, none⟩), .pointer (some ⟨b1, o1, none⟩), .pointer (some ⟨b2, o2, none⟩), .int .i64 full] w fun e w' => e = .returned (.bool true) ∧ Below w.heap.size w w' := by
  have HF := Lib.hid (framed_any ad w (hS.errs _ (by decide)))
  have HS := Lib.hid hS
  have HP := Lib.hid h
  have HC := Lib.hid (fun W (hb : Below w.heap.size w W) => hC W ((hS.below hb).errs _ (by decide)) (h.below hb).1.2.2.2 (h.below hb).2.1.2.2.2 (h.below hb).2.2.2.2.2)
  have HD := Lib.hid (fun W (hb : Below w.heap.size w W) => hD W (h.below hb))
  have hn0 : n0 ≤ 1000000 := by omega
  have d0 : decide ((n0 : Int) ≤ 700) = true := by simp; omega
  have d1 : decide ((n1 : Int) ≤ 700) = true := by simp; omega
  have d2 : decide ((n2 : Int) ≤ 700) = true := by simp; omega
  clear hS h hC hD s0 s1 s2
  go_enter Tryd.func6, Tryd.ntmps6
  go_wp2_with fail
  refine HF.out.mono ?_; rintro e w1 ⟨rfl, hb1⟩
  have HB1 := Lib.hid hb1
  clear hb1 HF
  go_wp2_with fail
  refine (small_pic b0 o0 W0 H0 f0 a0 n0 c0 _ (HP.out.below HB1.out).1).mono ?_; rintro e w2 ⟨rfl, rfl⟩
  rw [d0]
  go_wp2_with fail
  refine (small_pic b1 o1 W1 H1 f1 a1 n1 c1 _ (HP.out.below HB1.out).2.1).mono ?_; rintro e w2 ⟨rfl, rfl⟩
  rw [d1]
  go_wp2_with fail
  refine (small_pic b2 o2 W2 H2 f2 a2 n2 c2 _ (HP.out.below HB1.out).2.2).mono ?_; rintro e w2 ⟨rfl, rfl⟩
  rw [d2]
  clear d0 d1 d2
  go_wp2
  have hsz := HB1.out.size
  have HCell := Lib.hid (fun W (hb : Below w.heap.size w W) => pics_cells HP.out hb)
  obtain ⟨k0, k1, k2, k3, k4, k5, k6, k7, k8⟩ := HCell.out _ HB1.out
  go_region_held3 (fun w' => w'.cell? ⟨b0, o0, none⟩ = some (.int .i64 W0) ∧ w'.cell? ⟨b0, o0 + 1, none⟩ = some (.int .i64 H0) ∧ w'.cell? ⟨b0, o0 + 2, none⟩ = some (.slice a0 n0 c0) ∧ w'.cell? ⟨b1, o1, none⟩ = some (.int .i64 W1) ∧ w'.cell? ⟨b1, o1 + 1, none⟩ = some (.int .i64 H1) ∧ w'.cell? ⟨b1, o1 + 2, none⟩ = some (.slice a1 n1 c1) ∧ w'.cell? ⟨b2, o2, none⟩ = some (.int .i64 W2) ∧ w'.cell? ⟨b2, o2 + 1, none⟩ = some (.int .i64 H2) ∧ w'.cell? ⟨b2, o2 + 2, none⟩ = some (.slice a2 n2 c2))
    (first | (exact HCell.out _ HB1.out) | (exact HCell.out _ HB1.out.drew) | (exact HCell.out _ (bel_alloc HB1.out.drew _)) | (exact HCell.out _ (below_step HB1.out.drew hb2)) | (exact HCell.out _ (bel_alloc (below_step HB1.out.drew hb2) _)) | (exact HCell.out _ (below_step (bel_alloc HB1.out.drew _) hb2)) | (exact HCell.out _ (bel_store (bel_alloc (below_step HB1.out.drew hb2) _) (below_step HB1.out.drew hb2).size _ _ _)) | (exact HCell.out _ (bel_store (below_step (bel_alloc HB1.out.drew _) hb2) HB1.out.size _ _ _)) | assumption)
    (first | (go_at_call 27; refine (HC.out _ HB1.out.drew).mono ?_; rintro e w2 ⟨aa, ab, ca, cb, rfl, hra, hrb, hb2, la, lb⟩) | (go_at_call 27; refine (HC.out _ (bel_alloc HB1.out.drew _)).mono ?_; rintro e w2 ⟨aa, ab, ca, cb, rfl, hra, hrb, hb2, la, lb⟩; obtain ⟨q0, q1, q2, z0, z1, z2⟩ := fresh3 (W := w1.drew) (k := w1.heap.size) rfl hb2))
  · have hA : Below w.heap.size w (w2.alloc (Obj.cells #[.int .i64 W0, .int .i64 H0, .slice aa n0 ca] 48)) ∧ IRow (w2.alloc (Obj.cells #[.int .i64 W0, .int .i64 H0, .slice aa n0 ca] 48)) aa n0 g ∧ IRow (w2.alloc (Obj.cells #[.int .i64 W0, .int .i64 H0, .slice aa n0 ca] 48)) ab m l ∧ (w2.alloc (Obj.cells #[.int .i64 W0, .int .i64 H0, .slice aa n0 ca] 48)).cell? ⟨w2.heap.size, 0, none⟩ = some (.int .i64 W0) ∧ (w2.alloc (Obj.cells #[.int .i64 W0, .int .i64 H0, .slice aa n0 ca] 48)).cell? ⟨w2.heap.size, 1, none⟩ = some (.int .i64 H0) ∧ (w2.alloc (Obj.cells #[.int .i64 W0, .int .i64 H0, .slice aa n0 ca] 48)).cell? ⟨w2.heap.size, 2, none⟩ = some (.slice aa n0 ca) := ⟨bel_alloc (below_step HB1.out.drew hb2) _, hra.below ((Below.refl _ _).alloc (Nat.le_refl _) _), hrb.below ((Below.refl _ _).alloc (Nat.le_refl _) _), by simp, by simp, by simp⟩
    clear hb2 hsz HCell k0 k1 k2 k3 k4 k5 k6 k7 k8 HC HB1
    obtain ⟨hX, hXa, hXb, y0, y1, y2⟩ := hA
    clear hra hrb la lb
    generalize w2.alloc (Obj.cells #[.int .i64 W0, .int .i64 H0, .slice aa n0 ca] 48) = X at *
    generalize w2.heap.size = k at *
    have hk := cell_lt y0
    have HX := Lib.hid hX
    have HXa := Lib.hid hXa
    have HXb := Lib.hid hXb
    have HY := Lib.hid (fun (W : World) (hb : Below X.heap.size X W) => (show W.cell? ⟨k, 0, none⟩ = some (.int .i64 W0) ∧ W.cell? ⟨k, 1, none⟩ = some (.int .i64 H0) ∧ W.cell? ⟨k, 2, none⟩ = some (.slice aa n0 ca) from ⟨by rw [hb.cell (p := ⟨k, 0, none⟩) hk]; exact y0, by rw [hb.cell (p := ⟨k, 1, none⟩) hk]; exact y1, by rw [hb.cell (p := ⟨k, 2, none⟩) hk]; exact y2⟩))
    clear hX hXa hXb y0 y1 y2 hk
    go_wp2_with fail
    refine (HD.out _ HX.out).mono ?_; rintro e w3 ⟨da, db, va, vb, rfl, hda, hdb, hb3⟩
    have HX3 := Lib.hid hb3
    have HDa := Lib.hid (fun W (hb : Below w3.heap.size w3 W) => hda.below hb)
    have HDb := Lib.hid (fun W (hb : Below w3.heap.size w3 W) => hdb.below hb)
    clear hb3 HD hda hdb
    go_wp2_with fail
    refine (coded4_nil _).mono ?_; rintro e w4 ⟨rfl, hb4⟩
    have HX34 := Lib.hid hb4
    have HX4 := Lib.hid (below_step HX3.out hb4)
    clear hb4 HX3
    obtain ⟨y0, y1, y2⟩ := HY.out _ HX4.out
    go_wp2_with fail
    refine (sameInts_any g g aa da n0 ca va hn0 _ (HXa.out.below HX4.out) (HDa.out _ HX34.out) (fun j _ => rfl)).mono ?_; rintro e w5 ⟨rfl, hb5⟩
    have HX5 := Lib.hid (below_step HX4.out hb5)
    have HX35 := Lib.hid (below_step HX34.out hb5)
    clear hb5 HX4 y0 y1 y2 HX34
    go_wp2_with fail
    refine (sameInts_any l l ab db m cb vb hm _ (HXb.out.below HX5.out) (HDb.out _ HX35.out) (fun j _ => rfl)).mono ?_; rintro e w6 ⟨rfl, hb6⟩
    have HX6 := Lib.hid (below_step HX5.out hb6)
    clear hb6 HX5 HX35
    obtain ⟨y0, y1, y2⟩ := HY.out _ HX6.out
    obtain ⟨k0, k1, k2, k3, k4, k5, k6, k7, k8⟩ := pics_cells HP.out (below_step HX.out HX6.out)
    clear k2 k3 k4 k5 k6 k7 k8 y2
    go_wp2
    go_quiet (fail)
    go_wp2
    go_ret
    exact ⟨rfl, below_drewN (below_step HX.out HX6.out) _⟩
  · have hA : Below w.heap.size w (((w2.setCell ⟨w1.heap.size, 0, none⟩ (.int .i64 W0)).setCell ⟨w1.heap.size, 1, none⟩ (.int .i64 H0)).setCell ⟨w1.heap.size, 2, none⟩ (.slice aa n0 ca)) ∧ IRow (((w2.setCell ⟨w1.heap.size, 0, none⟩ (.int .i64 W0)).setCell ⟨w1.heap.size, 1, none⟩ (.int .i64 H0)).setCell ⟨w1.heap.size, 2, none⟩ (.slice aa n0 ca)) aa n0 g ∧ IRow (((w2.setCell ⟨w1.heap.size, 0, none⟩ (.int .i64 W0)).setCell ⟨w1.heap.size, 1, none⟩ (.int .i64 H0)).setCell ⟨w1.heap.size, 2, none⟩ (.slice aa n0 ca)) ab m l ∧ (((w2.setCell ⟨w1.heap.size, 0, none⟩ (.int .i64 W0)).setCell ⟨w1.heap.size, 1, none⟩ (.int .i64 H0)).setCell ⟨w1.heap.size, 2, none⟩ (.slice aa n0 ca)).cell? ⟨w1.heap.size, 0, none⟩ = some (.int .i64 W0) ∧ (((w2.setCell ⟨w1.heap.size, 0, none⟩ (.int .i64 W0)).setCell ⟨w1.heap.size, 1, none⟩ (.int .i64 H0)).setCell ⟨w1.heap.size, 2, none⟩ (.slice aa n0 ca)).cell? ⟨w1.heap.size, 1, none⟩ = some (.int .i64 H0) ∧ (((w2.setCell ⟨w1.heap.size, 0, none⟩ (.int .i64 W0)).setCell ⟨w1.heap.size, 1, none⟩ (.int .i64 H0)).setCell ⟨w1.heap.size, 2, none⟩ (.slice aa n0 ca)).cell? ⟨w1.heap.size, 2, none⟩ = some (.slice aa n0 ca) := ⟨bel_store (below_step (bel_alloc HB1.out.drew _) hb2) HB1.out.size _ _ _, hra.stored3 (la.mono (by simp)) _ _ _, hrb.stored3 (lb.mono (by simp)) _ _ _, set3 q0 q1 q2 _ _ _⟩
    clear hb2 hsz HCell k0 k1 k2 k3 k4 k5 k6 k7 k8 HC HB1 q0 q1 q2 z0 z1 z2
    obtain ⟨hX, hXa, hXb, y0, y1, y2⟩ := hA
    clear hra hrb la lb
    generalize ((w2.setCell ⟨w1.heap.size, 0, none⟩ (.int .i64 W0)).setCell ⟨w1.heap.size, 1, none⟩ (.int .i64 H0)).setCell ⟨w1.heap.size, 2, none⟩ (.slice aa n0 ca) = X at *
    generalize w1.heap.size = k at *
    have hk := cell_lt y0
    have HX := Lib.hid hX
    have HXa := Lib.hid hXa
    have HXb := Lib.hid hXb
    have HY := Lib.hid (fun (W : World) (hb : Below X.heap.size X W) => (show W.cell? ⟨k, 0, none⟩ = some (.int .i64 W0) ∧ W.cell? ⟨k, 1, none⟩ = some (.int .i64 H0) ∧ W.cell? ⟨k, 2, none⟩ = some (.slice aa n0 ca) from ⟨by rw [hb.cell (p := ⟨k, 0, none⟩) hk]; exact y0, by rw [hb.cell (p := ⟨k, 1, none⟩) hk]; exact y1, by rw [hb.cell (p := ⟨k, 2, none⟩) hk]; exact y2⟩))
    clear hX hXa hXb y0 y1 y2 hk
    go_wp2_with fail
    refine (HD.out _ HX.out).mono ?_; rintro e w3 ⟨da, db, va, vb, rfl, hda, hdb, hb3⟩
    have HX3 := Lib.hid hb3
    have HDa := Lib.hid (fun W (hb : Below w3.heap.size w3 W) => hda.below hb)
    have HDb := Lib.hid (fun W (hb : Below w3.heap.size w3 W) => hdb.below hb)
    clear hb3 HD hda hdb
    go_wp2_with fail
    refine (coded4_nil _).mono ?_; rintro e w4 ⟨rfl, hb4⟩
    have HX34 := Lib.hid hb4
    have HX4 := Lib.hid (below_step HX3.out hb4)
    clear hb4 HX3
    obtain ⟨y0, y1, y2⟩ := HY.out _ HX4.out
    go_wp2_with fail
    refine (sameInts_any g g aa da n0 ca va hn0 _ (HXa.out.below HX4.out) (HDa.out _ HX34.out) (fun j _ => rfl)).mono ?_; rintro e w5 ⟨rfl, hb5⟩
    have HX5 := Lib.hid (below_step HX4.out hb5)
    have HX35 := Lib.hid (below_step HX34.out hb5)
    clear hb5 HX4 y0 y1 y2 HX34
    go_wp2_with fail
    refine (sameInts_any l l ab db m cb vb hm _ (HXb.out.below HX5.out) (HDb.out _ HX35.out) (fun j _ => rfl)).mono ?_; rintro e w6 ⟨rfl, hb6⟩
    have HX6 := Lib.hid (below_step HX5.out hb6)
    clear hb6 HX5 HX35
    obtain ⟨y0, y1, y2⟩ := HY.out _ HX6.out
    obtain ⟨k0, k1, k2, k3, k4, k5, k6, k7, k8⟩ := pics_cells HP.out (below_step HX.out HX6.out)
    clear k2 k3 k4 k5 k6 k7 k8 y2
    go_wp2
    go_quiet (fail)
    go_wp2
    go_ret
    exact ⟨rfl, below_drewN (below_step HX.out HX6.out) _⟩
end Go.Proofs.YtegnjiecninlaaaDoor
