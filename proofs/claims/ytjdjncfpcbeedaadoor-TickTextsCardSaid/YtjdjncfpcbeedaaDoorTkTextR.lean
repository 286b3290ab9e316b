/- StampText of package meridianref1: its walk. -/
import Derived.Test.YtjdjncfpcbeedaaDoorTkText
import Derived.Test.YtjdjncfpcbeedaaDoorWide
namespace Go.Proofs.YtjdjncfpcbeedaaDoor
open Go.RowKit

set_option maxHeartbeats 8000000 in
theorem refText_ok (x y m d day micro M R Q S : Int) (V : Value) (hy : 1 ≤ y) (hy2 : y ≤ 9999) (hm : 1 ≤ m) (hm2 : m ≤ 12) (hd : 1 ≤ d) (hd2 : d ≤ 31) (h0 : 0 ≤ micro) (h1 : micro < 86401000000)
    (hM0 : 0 ≤ M) (hM1 : M ≤ 1439) (hS0 : 0 ≤ S) (hS1 : S ≤ 60) (hR0 : 0 ≤ R) (hQ : (1439 < Q ∧ M = 1439) ∨ (Q ≤ 1439 ∧ M = Q)) (eQ : Hid ((micro / 1000000) / 60 = Q)) (eS : Hid (micro / 1000000 - M * 60 = S)) (eR1 : Hid (S.toNat = R.toNat / 1000000)) (eR2 : Hid ((micro % 1000000).toNat = R.toNat % 1000000)) (w : World)
    (HI : Hid (∀ o, Calls Tryd.prog 52 #[V, .agg #[.int .i64 day, .int .i64 micro]] (w.alloc o) fun e w' => e = .returned (.tuple #[.int .i64 x, .int .i64 0]) ∧ Below (w.alloc o).heap.size (w.alloc o) w'))
    (HDt : Hid (∀ W, Calls Tryd.prog 53 #[.int .i64 day] W fun e w' => e = .returned (.tuple #[.int .i64 y, .int .i64 m, .int .i64 d]) ∧ Below W.heap.size W w')) :
    Calls Tryd.prog 23 #[V, .agg #[.int .i64 day, .int .i64 micro]] w fun e w' => ∃ t : ByteArray, e = .returned (.tuple #[.string t, .int .i64 0]) ∧ Hid (t = bs (stL y.toNat m.toNat d.toNat M.toNat R.toNat)) ∧ Below w.heap.size w w' := by
  have HD := Lib.hid (fun x w a b c W => wide_int x w a b c W)
  have HC := Lib.hid (fun d1 d2 d3 d4 d5 d6 d7 g1 g2 g3 g4 g5 g6 g7 => st_cat y.toNat m.toNat d.toNat M.toNat R.toNat d1 d2 d3 d4 d5 d6 d7 g1 g2 g3 g4 g5 g6 g7)
  have n1 : (M / 60).toNat = M.toNat / 60 := by omega
  have n2 : (M % 60).toNat = M.toNat % 60 := by omega
  rw [← n1, ← n2, ← eR1.out, ← eR2.out] at HC
  clear n1 n2 eR1 eR2
  rcases hQ with ⟨q1, rfl⟩ | ⟨q1, rfl⟩
  · have hc : 1439 < micro / 1000000 / 60 := by rw [eQ.out]; exact q1
    go_enter Tryd.func23, Tryd.ntmps23
    go_wp2_with fail
    refine (HI.out _).mono ?_; rintro e w1 ⟨rfl, hb1⟩
    have c0 : w1.cell? ⟨w.heap.size, 0, none⟩ = some (.int .i64 day) := by rw [hb1.cell (p := ⟨w.heap.size, 0, none⟩) (by simp)]; simp
    have c1 : w1.cell? ⟨w.heap.size, 1, none⟩ = some (.int .i64 micro) := by rw [hb1.cell (p := ⟨w.heap.size, 1, none⟩) (by simp)]; simp
    have hs1 : w.heap.size < w1.heap.size := by have := hb1.size; simp at this; omega
    have B1 := Lib.hid (below_step ((Below.refl _ _).alloc (Nat.le_refl _) _) hb1)
    clear hb1 HI
    go_wp2_with fail
    refine (HDt.out _).mono ?_; rintro e w2 ⟨rfl, hb2⟩
    have c1' : w2.cell? ⟨w.heap.size, 1, none⟩ = some (.int .i64 micro) := by rw [hb2.cell (p := ⟨w.heap.size, 1, none⟩) hs1]; exact c1
    have B2 := Lib.hid (below_step B1.out hb2)
    clear hb2 HDt B1 c0 c1
    go_wp2_with fail
    rw [show micro / 1000000 - 86340 = S by have := eS.out; omega]
    clear eQ eS c1' h0 h1
    refine (HD.out _ 4 (by omega) (by omega) (by decide) _).mono ?_; rintro e w3 ⟨d1, rfl, s1, D1, hb3⟩
    have B3 := Lib.hid (below_step B2.out hb3)
    clear hb3 B2
    go_wp2_with fail
    refine (HD.out _ 2 (by omega) (by omega) (by decide) _).mono ?_; rintro e w4 ⟨d2, rfl, s2, D2, hb4⟩
    have B4 := Lib.hid (below_step B3.out hb4)
    clear hb4 B3
    go_wp2_with fail
    refine (HD.out _ 2 (by omega) (by omega) (by decide) _).mono ?_; rintro e w5 ⟨d3, rfl, s3, D3, hb5⟩
    have B5 := Lib.hid (below_step B4.out hb5)
    clear hb5 B4
    go_wp2_with fail
    refine (HD.out _ 2 (by omega) (by omega) (by decide) _).mono ?_; rintro e w6 ⟨d4, rfl, s4, D4, hb6⟩
    have B6 := Lib.hid (below_step B5.out hb6)
    clear hb6 B5
    go_wp2_with fail
    refine (HD.out _ 2 (by omega) (by omega) (by decide) _).mono ?_; rintro e w7 ⟨d5, rfl, s5, D5, hb7⟩
    have B7 := Lib.hid (below_step B6.out hb7)
    clear hb7 B6
    go_wp2_with fail
    refine (HD.out _ 2 (by omega) (by omega) (by decide) _).mono ?_; rintro e w8 ⟨d6, rfl, s6, D6, hb8⟩
    have B8 := Lib.hid (below_step B7.out hb8)
    clear hb8 B7
    go_wp2_with fail
    refine (HD.out _ 6 (by omega) (by omega) (by decide) _).mono ?_; rintro e w9 ⟨d7, rfl, s7, D7, hb9⟩
    have B9 := Lib.hid (below_step B8.out hb9)
    clear hb9 B8
    have HF := Lib.hid (HC.out d1 d2 d3 d4 d5 d6 d7 D1.out D2.out D3.out D4.out D5.out D6.out D7.out)
    clear HC D1 D2 D3 D4 D5 D6 D7 HD
    go_wp2
    go_ret2
    exact ⟨_, rfl, HF, B9.out⟩
  · have hc : ¬ 1439 < micro / 1000000 / 60 := by rw [eQ.out]; omega
    go_enter Tryd.func23, Tryd.ntmps23
    go_wp2_with fail
    refine (HI.out _).mono ?_; rintro e w1 ⟨rfl, hb1⟩
    have c0 : w1.cell? ⟨w.heap.size, 0, none⟩ = some (.int .i64 day) := by rw [hb1.cell (p := ⟨w.heap.size, 0, none⟩) (by simp)]; simp
    have c1 : w1.cell? ⟨w.heap.size, 1, none⟩ = some (.int .i64 micro) := by rw [hb1.cell (p := ⟨w.heap.size, 1, none⟩) (by simp)]; simp
    have hs1 : w.heap.size < w1.heap.size := by have := hb1.size; simp at this; omega
    have B1 := Lib.hid (below_step ((Below.refl _ _).alloc (Nat.le_refl _) _) hb1)
    clear hb1 HI
    go_wp2_with fail
    refine (HDt.out _).mono ?_; rintro e w2 ⟨rfl, hb2⟩
    have c1' : w2.cell? ⟨w.heap.size, 1, none⟩ = some (.int .i64 micro) := by rw [hb2.cell (p := ⟨w.heap.size, 1, none⟩) hs1]; exact c1
    have B2 := Lib.hid (below_step B1.out hb2)
    clear hb2 HDt B1 c0 c1
    go_wp2_with fail
    rw [eQ.out, eS.out]
    clear eQ eS c1' h0 h1
    refine (HD.out _ 4 (by omega) (by omega) (by decide) _).mono ?_; rintro e w3 ⟨d1, rfl, s1, D1, hb3⟩
    have B3 := Lib.hid (below_step B2.out hb3)
    clear hb3 B2
    go_wp2_with fail
    refine (HD.out _ 2 (by omega) (by omega) (by decide) _).mono ?_; rintro e w4 ⟨d2, rfl, s2, D2, hb4⟩
    have B4 := Lib.hid (below_step B3.out hb4)
    clear hb4 B3
    go_wp2_with fail
    refine (HD.out _ 2 (by omega) (by omega) (by decide) _).mono ?_; rintro e w5 ⟨d3, rfl, s3, D3, hb5⟩
    have B5 := Lib.hid (below_step B4.out hb5)
    clear hb5 B4
    go_wp2_with fail
    refine (HD.out _ 2 (by omega) (by omega) (by decide) _).mono ?_; rintro e w6 ⟨d4, rfl, s4, D4, hb6⟩
    have B6 := Lib.hid (below_step B5.out hb6)
    clear hb6 B5
    go_wp2_with fail
    refine (HD.out _ 2 (by omega) (by omega) (by decide) _).mono ?_; rintro e w7 ⟨d5, rfl, s5, D5, hb7⟩
    have B7 := Lib.hid (below_step B6.out hb7)
    clear hb7 B6
    go_wp2_with fail
    refine (HD.out _ 2 (by omega) (by omega) (by decide) _).mono ?_; rintro e w8 ⟨d6, rfl, s6, D6, hb8⟩
    have B8 := Lib.hid (below_step B7.out hb8)
    clear hb8 B7
    go_wp2_with fail
    refine (HD.out _ 6 (by omega) (by omega) (by decide) _).mono ?_; rintro e w9 ⟨d7, rfl, s7, D7, hb9⟩
    have B9 := Lib.hid (below_step B8.out hb9)
    clear hb9 B8
    have HF := Lib.hid (HC.out d1 d2 d3 d4 d5 d6 d7 D1.out D2.out D3.out D4.out D5.out D6.out D7.out)
    clear HC D1 D2 D3 D4 D5 D6 D7 HD
    go_wp2
    go_ret2
    exact ⟨_, rfl, HF, B9.out⟩
end Go.Proofs.YtjdjncfpcbeedaaDoor
