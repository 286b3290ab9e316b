/- The law TickOrder: its walk. -/
import Derived.Test.YtlhfmeekbijhgaaDoorLive
namespace Go.Proofs.YtlhfmeekbijhgaaDoor
open Go.RowKit

theorem order_long (ad : Nat → Addr) (a : Option Addr) (len cap : Nat) (t more : Int) (hl : 100 < len) (w : World) (he : Errs w ad [1, 2, 3]) :
    Calls Tryd.prog 3 #[.slice a len cap, .int .i64 t, .int .i64 more] w fun e w' => e = .returned (.bool true) ∧ Below w.heap.size w w' := by
  have HL := Lib.hid (live_any ad w he)
  clear he
  go_enter Tryd.func3, Tryd.ntmps3
  go_wp2_with fail
  refine HL.out.mono ?_; rintro e w1 ⟨rfl, hb1⟩
  go_wp2
  go_ret
  exact ⟨rfl, hb1⟩

theorem order_out (ad : Nat → Addr) (a : Option Addr) (len cap : Nat) (t more : Int) (hl : len ≤ 100) (ho : more < 0 ∨ 300000000000000000 < more ∨ 300000000000000000 < t ∨ t < -300000000000000000) (w : World) (he : Errs w ad [1, 2, 3]) :
    Calls Tryd.prog 3 #[.slice a len cap, .int .i64 t, .int .i64 more] w fun e w' => e = .returned (.bool true) ∧ Below w.heap.size w w' := by
  have HL := Lib.hid (live_any ad w he)
  clear he
  by_cases o1 : more < 0
  · clear ho
    go_enter Tryd.func3, Tryd.ntmps3
    go_wp2_with fail
    refine HL.out.mono ?_; rintro e w1 ⟨rfl, hb1⟩
    go_wp2
    go_ret
    exact ⟨rfl, hb1⟩
  · by_cases o2 : 300000000000000000 < more
    · clear ho
      go_enter Tryd.func3, Tryd.ntmps3
      go_wp2_with fail
      refine HL.out.mono ?_; rintro e w1 ⟨rfl, hb1⟩
      go_wp2
      go_ret
      exact ⟨rfl, hb1⟩
    · by_cases o3 : 300000000000000000 < t
      · clear ho
        go_enter Tryd.func3, Tryd.ntmps3
        go_wp2_with fail
        refine HL.out.mono ?_; rintro e w1 ⟨rfl, hb1⟩
        go_wp2
        go_ret
        exact ⟨rfl, hb1⟩
      · have o4 : t < -300000000000000000 := by omega
        clear ho
        go_enter Tryd.func3, Tryd.ntmps3
        go_wp2_with fail
        refine HL.out.mono ?_; rintro e w1 ⟨rfl, hb1⟩
        go_wp2
        go_ret
        exact ⟨rfl, hb1⟩

/-- The two cells of a stamp that was laid ahead of a call. -/
theorem freshV {w w1 : World} {T : TypeId} {x y : Value} (hb : Below (w.alloc (Obj.cells #[x, y] T)).heap.size (w.alloc (Obj.cells #[x, y] T)) w1) :
    w1.cell? ⟨w.heap.size, 0, none⟩ = some x ∧ w1.cell? ⟨w.heap.size, 1, none⟩ = some y ∧ w.heap.size < w1.heap.size := by
  refine ⟨?_, ?_, ?_⟩
  · rw [hb.cell (p := ⟨w.heap.size, 0, none⟩) (by simp)]; simp
  · rw [hb.cell (p := ⟨w.heap.size, 1, none⟩) (by simp)]; simp
  · have := hb.size; simp at this; omega

theorem order_bad (ad : Nat → Addr) (D A : Nat → Int) (a : Option Addr) (len cap : Nat) (t more : Int) (hl : len ≤ 100) (m1 : 0 ≤ more) (m2 : more ≤ 300000000000000000) (t1 : t ≤ 300000000000000000) (t2 : -300000000000000000 ≤ t) (w : World) (he : Errs w ad [1, 2, 3])
    (h : Tab w a len D A) (g : ¬ goodT D A len) :
    Calls Tryd.prog 3 #[.slice a len cap, .int .i64 t, .int .i64 more] w fun e w' => e = .returned (.bool true) ∧ Below w.heap.size w w' := by
  have HL := Lib.hid (live_any ad w he)
  have HE := Lib.hid he
  have HT := Lib.hid h
  have HG := Lib.hid g
  clear he h g
  go_enter Tryd.func3, Tryd.ntmps3
  go_wp2_with fail
  refine HL.out.mono ?_; rintro e w1 ⟨rfl, hb1⟩
  have HS := Lib.hid (stamped_bad ad D A a len cap t w1 (HE.out.below hb1) (HT.out.below hb1) HG.out)
  have HB1 := Lib.hid hb1
  clear hb1
  unfold badV at HS
  go_wp2_with fail
  refine HS.out.mono ?_; rintro e w2 ⟨rfl, hb2⟩
  have hb12 := below_step HB1.out hb2
  have V := fun o => valid_bad ad D A a len cap (w2.alloc o) (HE.out.below (hb12.alloc hb12.size o)) (HT.out.below (hb12.alloc hb12.size o)) HG.out
  have HV := Lib.hid V
  have HB2 := Lib.hid hb12
  clear hb12 hb2 V HS
  unfold badV at HV
  go_wp2_with fail
  refine (HV.out _).mono ?_; rintro e w3 ⟨rfl, hb3⟩
  have hb13 := below_step (HB2.out.alloc HB2.out.size _) hb3
  have HB3 := Lib.hid hb13
  clear hb13 hb3 HV
  go_wp2
  go_ret
  exact ⟨rfl, HB3.out⟩

theorem order_late (ad : Nat → Addr) (D A : Nat → Int) (a : Option Addr) (len cap : Nat) (t more : Int) (hl : len ≤ 100) (m1 : 0 ≤ more) (m2 : more ≤ 300000000000000000) (t1 : t ≤ 300000000000000000) (t2 : -300000000000000000 ≤ t) (w : World) (he : Errs w ad [1, 2, 3])
    (h : Tab w a len D A) (g : goodT D A len) (hlt : 300000000000000000 < t + more) :
    Calls Tryd.prog 3 #[.slice a len cap, .int .i64 t, .int .i64 more] w fun e w' => e = .returned (.bool true) ∧ Below w.heap.size w w' := by
  have HL := Lib.hid (live_any ad w he)
  have HE := Lib.hid he
  have HT := Lib.hid h
  have HG := Lib.hid g
  have ht : goodB t = true := by unfold goodB; simp; omega
  have hu : goodB (t + more) = false := by unfold goodB; simp; omega
  clear he h g
  go_enter Tryd.func3, Tryd.ntmps3
  go_wp2_with fail
  refine HL.out.mono ?_; rintro e w1 ⟨rfl, hb1⟩
  have HS := Lib.hid (stamped_ok ad D A a len cap t w1 (HE.out.below hb1) (HT.out.below hb1) HG.out ht)
  have HB1 := Lib.hid hb1
  clear hb1
  go_wp2_with fail
  refine HS.out.mono ?_; rintro e w2 ⟨⟨d, rfl, h1, h2, h3, h4⟩, hb2⟩
  have hb12 := below_step HB1.out hb2
  have hi := instant_there ht h1 h2 h3 h4
  have I := fun o => instant_ok ad D A a len cap d (t - startF D A len d) (w2.alloc o) (HE.out.below (hb12.alloc hb12.size o)) (HT.out.below (hb12.alloc hb12.size o)) HG.out hi.1
  rw [hi.2] at I
  have HI := Lib.hid I
  have HB2 := Lib.hid hb12
  clear hb12 hb2 hi I HS
  go_wp2_with fail
  refine (HI.out _).mono ?_; rintro e w3 ⟨rfl, hb3⟩
  obtain ⟨q0, q1, hsz⟩ := freshV hb3
  have hb13 := below_step (HB2.out.alloc HB2.out.size _) hb3
  have HS3 := Lib.hid (stamped_late ad D A a len cap (t + more) w3 (HE.out.below hb13) (HT.out.below hb13) HG.out hu)
  have HB3 := Lib.hid hb13
  clear hb13 hb3 HI
  unfold errV at HS3
  go_wp2_with fail
  refine HS3.out.mono ?_; rintro e w4 ⟨rfl, hb4⟩
  have HB4 := Lib.hid (below_step HB3.out hb4)
  clear hb4 HS3
  go_wp2
  go_ret
  exact ⟨rfl, HB4.out.alloc HB4.out.size _⟩

theorem order_ok (ad : Nat → Addr) (D A : Nat → Int) (a : Option Addr) (len cap : Nat) (t more : Int) (hl : len ≤ 100) (m1 : 0 ≤ more) (m2 : more ≤ 300000000000000000) (t1 : t ≤ 300000000000000000) (t2 : -300000000000000000 ≤ t) (w : World) (he : Errs w ad [1, 2, 3])
    (h : Tab w a len D A) (g : goodT D A len) (hlt : t + more ≤ 300000000000000000) :
    Calls Tryd.prog 3 #[.slice a len cap, .int .i64 t, .int .i64 more] w fun e w' => e = .returned (.bool true) ∧ Below w.heap.size w w' := by
  have HL := Lib.hid (live_any ad w he)
  have HE := Lib.hid he
  have HT := Lib.hid h
  have HG := Lib.hid g
  have ht : goodB t = true := by unfold goodB; simp; omega
  have hu : goodB (t + more) = true := by unfold goodB; simp; omega
  clear he h g
  go_enter Tryd.func3, Tryd.ntmps3
  go_wp2_with fail
  refine HL.out.mono ?_; rintro e w1 ⟨rfl, hb1⟩
  have HS := Lib.hid (stamped_ok ad D A a len cap t w1 (HE.out.below hb1) (HT.out.below hb1) HG.out ht)
  have HB1 := Lib.hid hb1
  clear hb1
  go_wp2_with fail
  refine HS.out.mono ?_; rintro e w2 ⟨⟨d, rfl, h1, h2, h3, h4⟩, hb2⟩
  have hb12 := below_step HB1.out hb2
  have hi := instant_there ht h1 h2 h3 h4
  have I := fun o => instant_ok ad D A a len cap d (t - startF D A len d) (w2.alloc o) (HE.out.below (hb12.alloc hb12.size o)) (HT.out.below (hb12.alloc hb12.size o)) HG.out hi.1
  rw [hi.2] at I
  have HI := Lib.hid I
  have HB2 := Lib.hid hb12
  clear hb12 hb2 hi I HS
  go_wp2_with fail
  refine (HI.out _).mono ?_; rintro e w3 ⟨rfl, hb3⟩
  obtain ⟨q0, q1, hsz⟩ := freshV hb3
  have hb13 := below_step (HB2.out.alloc HB2.out.size _) hb3
  have HS3 := Lib.hid (stamped_ok ad D A a len cap (t + more) w3 (HE.out.below hb13) (HT.out.below hb13) HG.out hu)
  have HB3 := Lib.hid hb13
  clear hb13 hb3 HI
  go_wp2_with fail
  refine HS3.out.mono ?_; rintro e w4 ⟨⟨d', rfl, k1, k2, _, _⟩, hb4⟩
  have r0 : w4.cell? ⟨w2.heap.size, 0, none⟩ = some (.int .i64 d) := by rw [hb4.cell (p := ⟨w2.heap.size, 0, none⟩) hsz]; exact q0
  have r1 : w4.cell? ⟨w2.heap.size, 1, none⟩ = some (.int .i64 (t - startF D A len d)) := by rw [hb4.cell (p := ⟨w2.heap.size, 1, none⟩) hsz]; exact q1
  have hsz4 : w2.heap.size < w4.heap.size := by have := hb4.size; omega
  have HB4 := Lib.hid (below_step HB3.out hb4)
  clear hb4 HS3 q0 q1
  have hdd : d ≤ d' := day_le HG.out.2 (by omega) h1 k2
  have p0 : ∀ o, (w4.alloc o).cell? ⟨w2.heap.size, 0, none⟩ = some (.int .i64 d) := fun o => by rw [World.cell?_alloc_past _ _ _ (by simpa using hsz4)]; exact r0
  have p1 : ∀ o, (w4.alloc o).cell? ⟨w2.heap.size, 1, none⟩ = some (.int .i64 (t - startF D A len d)) := fun o => by rw [World.cell?_alloc_past _ _ _ (by simpa using hsz4)]; exact r1
  by_cases c0 : more = 0
  · have hd2 : d' ≤ d := day_le HG.out.2 (by omega) k1 h2
    obtain rfl : d' = d := by omega
    have e0 : t + more - startF D A len d' = t - startF D A len d' := by omega
    rw [e0]
    generalize t - startF D A len d' = micro at *
    have b0 : (more == 0) = true := by simpa using c0
    clear e0 h1 h2 k1 k2 hd2 hdd c0
    go_wp2
    go_ret
    exact ⟨rfl, HB4.out.alloc HB4.out.size _⟩
  · have b0 : (more == 0) = false := by simpa using c0
    have b1 : decide (0 < more) = true := by simp; omega
    by_cases c1 : d < d'
    · have b2 : decide (d < d') = true := by simp; omega
      generalize t - startF D A len d = micro at *
      generalize t + more - startF D A len d' = micro' at *
      clear h1 h2 k1 k2 hdd c0 c1
      go_wp2
      go_ret
      exact ⟨rfl, HB4.out.alloc HB4.out.size _⟩
    · obtain rfl : d' = d := by omega
      have b2 : decide (t - startF D A len d' < t + more - startF D A len d') = true := by simp; omega
      generalize t - startF D A len d' = micro at *
      generalize t + more - startF D A len d' = micro' at *
      clear h1 h2 k1 k2 hdd c0 c1
      go_wp2
      go_ret
      exact ⟨rfl, HB4.out.alloc HB4.out.size _⟩

/-- The law answers true. -/
theorem order_any (ad : Nat → Addr) (D A : Nat → Int) (a : Option Addr) (len cap : Nat) (t more : Int) (ht : In64 t) (hm : In64 more) (w : World) (he : Errs w ad [1, 2, 3]) (h : Tab w a len D A) :
    Calls Tryd.prog 3 #[.slice a len cap, .int .i64 t, .int .i64 more] w fun e w' => e = .returned (.bool true) ∧ Below w.heap.size w w' := by
  by_cases c1 : 100 < len
  · exact order_long ad a len cap t more c1 w he
  · by_cases c2 : more < 0 ∨ 300000000000000000 < more ∨ 300000000000000000 < t ∨ t < -300000000000000000
    · exact order_out ad a len cap t more (by omega) c2 w he
    · by_cases g : goodT D A len
      · by_cases c3 : t + more ≤ 300000000000000000
        · exact order_ok ad D A a len cap t more (by omega) (by omega) (by omega) (by omega) (by omega) w he h g c3
        · exact order_late ad D A a len cap t more (by omega) (by omega) (by omega) (by omega) (by omega) w he h g (by omega)
      · exact order_bad ad D A a len cap t more (by omega) (by omega) (by omega) (by omega) (by omega) w he h g
end Go.Proofs.YtlhfmeekbijhgaaDoor
