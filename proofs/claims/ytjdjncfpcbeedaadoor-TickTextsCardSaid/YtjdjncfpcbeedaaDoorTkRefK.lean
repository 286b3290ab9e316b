/- ReadStamp of package meridianref1: at a text that fits, with a time of day that is one. -/
import Derived.Test.YtjdjncfpcbeedaaDoorTkRef
namespace Go.Proofs.YtjdjncfpcbeedaaDoor
open Go.RowKit

set_option maxRecDepth 20000 in
set_option maxHeartbeats 8000000 in
theorem refRead_ok (V : Value) (s : ByteArray) (hs : s.size ≤ 1000000) (w : World) (day inst micro e0 i0 : Int) (ok : Bool) (h mi sc us : Nat)
    (h3 : nst s 27 3 = h) (h4 : nst s 27 4 = mi) (h5 : nst s 27 5 = sc) (h6 : nst s 27 6 = us) (hmc : (((h : Int) * 60 + mi) * 60 + sc) * 1000000 + us = micro)
    (HV : Hid (∀ o1 o2, Calls Tryd.prog 57 #[V] ((w.alloc o1).alloc o2) fun e w' => e = .returned (.int .i64 0) ∧ (w.alloc o1).alloc o2 = w'))
    (HDay : Hid (∀ W, Calls Tryd.prog 59 #[.int .i64 (nst s 27 0 : Nat), .int .i64 (nst s 27 1 : Nat), .int .i64 (nst s 27 2 : Nat)] W fun e w' => e = .returned (.tuple #[.int .i64 day, .int .i64 e0]) ∧ Below W.heap.size W w'))
    (HInst : Hid (∀ W, Below w.heap.size w W → Calls Tryd.prog 52 #[V, .agg #[.int .i64 day, .int .i64 micro]] W fun e w' => e = .returned (.tuple #[.int .i64 inst, .int .i64 i0]) ∧ Below W.heap.size W w'))
    (hg : ∀ j, j < 27 → goodAt s j) (hl : s.size = 27) (hO : e0 = 0 ∧ timeOk h mi sc ∧ ((0 < i0 ∧ ok = false) ∨ (i0 = 0 ∧ ok = true))) :
    Calls Tryd.prog 26 #[V, .string s] w fun e w' => e = .returned (.tuple #[.agg #[.int .i64 (rdOut s ok day micro).1, .int .i64 (rdOut s ok day micro).2.1], .agg #[.int .i64 (rdOut s ok day micro).2.2.1, .int .i64 (rdOut s ok day micro).2.2.2]]) ∧ Below w.heap.size w w' := by
  obtain ⟨j0, ji, jz0, jz1, jz2⟩ := info_parts info_int'
  have HO := Lib.hid hO
  have HGG := Lib.hid hg
  have HLL := Lib.hid hl
  clear hg hl
  have HN : Hid (nst s 27 3 = h ∧ nst s 27 4 = mi ∧ nst s 27 5 = sc ∧ nst s 27 6 = us) := Lib.hid ⟨h3, h4, h5, h6⟩
  have HM := Lib.hid hmc
  have HRb : Hid (∀ p, badF s 27 0 = some p → rdOut s ok day micro = (0, 0, 1, ((min p s.size : Nat) : Int))) := Lib.hid (fun p h => rdOut_bad h ok day micro)
  have HRl : Hid (badF s 27 0 = none → 27 < s.size → rdOut s ok day micro = (0, 0, 1, 27)) := Lib.hid (fun h1 h2 => rdOut_long h1 h2 ok day micro)
  have HRo : Hid (badF s 27 0 = none → ¬ 27 < s.size → ok = true → rdOut s ok day micro = (day, micro, 0, -1)) := Lib.hid (fun h1 h2 h3 => by rw [h3]; exact rdOut_ok h1 h2 day micro)
  have HRn : Hid (badF s 27 0 = none → ¬ 27 < s.size → ok = false → rdOut s ok day micro = (0, 0, 3, 0)) := Lib.hid (fun h1 h2 h3 => by rw [h3]; exact rdOut_no h1 h2 day micro)
  clear hO h3 h4 h5 h6 hmc
  generalize rdOut s ok day micro = out at *
  obtain ⟨q1, q2, q3, q4⟩ := out
  go_enter Tryd.func26, Tryd.ntmps26
  go_wp2_with fail
  refine (HV.out _ _).mono ?_; rintro e w1 ⟨rfl, rfl⟩
  clear HV
  have HW2 : Hid (∀ o1 o2, o1 = Obj.cells #[.int .i64 0, .int .i64 0] 52 → o2 = Obj.cells #[.int .i64 0, .int .i64 0] 60 → Row4 w.heap.size ((w.alloc o1).alloc o2) ∧ Below w.heap.size w ((w.alloc o1).alloc o2)) := Lib.hid (by
    rintro _ _ rfl rfl
    refine ⟨⟨by simp, by simp, by simp, by simp, by simp, by simp, by simp, by simp, by simp⟩, by go_grown⟩)
  go_wp2
  obtain ⟨hr4, hb2⟩ := HW2.out _ _ rfl rfl
  generalize (w.alloc _).alloc _ = W2 at *
  have HI := Lib.hid hr4
  have HB2 := Lib.hid hb2
  have hs2 := hr4.sz
  clear hr4 hb2 HW2
  have HG0 : Hid (Gath W2 (.slice none 0 0) (finL s 0) W2) := Lib.hid ⟨World.ownsRow_nil _ _ _ _, Below.refl _ _⟩
  go_wp2
  go_loopw [8, 9, 10] (fun v m t wr => ∃ i : Nat, i ≤ 27 ∧ m = .int .i64 (nst s i (sep i) : Nat) ∧ t = .int .i64 i ∧ Hid (∀ j, j < i → goodAt s j) ∧ Hid (badF s (27 - i) i = badF s 27 0) ∧ Hid (Gath W2 v (finL s i) wr)) (fun _ _ t _ => 27 - (intOf t).toNat)
  case atStart => exact ⟨0, by omega, rfl, rfl, Lib.hid (fun j hj => by omega), Lib.hid rfl, HG0⟩
  case round =>
    clear HG0
    obtain ⟨i, hi, rfl, rfl, HG, HP, HA⟩ := hrel
    by_cases c27 : i = 27
    · subst c27
      have hbad : Hid (badF s 27 0 = none) := Lib.hid (by rw [← HP.out]; rfl)
      have hr4 := HI.out.below HA.out.2
      have y0 := hr4.a0
      have y1 := hr4.a1
      have y2 := hr4.b0
      have y3 := hr4.b1
      have z0 := hr4.f0
      have z1 := hr4.f1
      have z2 := hr4.g0
      have z3 := hr4.g1
      have hne : ¬ w.heap.size = w.heap.size + 1 := by omega
      have hne' : ¬ w.heap.size + 1 = w.heap.size := by omega
      have HBw := Lib.hid (below_step HB2.out HA.out.2)
      have hl : ¬ 27 < s.size := by have := HLL.out; omega
      have HEo := Lib.hid (HRo.out hbad.out hl)
      have HEn := Lib.hid (HRn.out hbad.out hl)
      obtain ⟨n3, n4, n5, n6⟩ := HN.out
      have nb := (nst_bd 27 (Nat.le_refl _) HG.out).1
      have hlen : (finL s 27).length = 7 := by rw [finL_len]; rfl
      obtain ⟨ga, gc, rfl, hrow⟩ := HA.out.row
      rw [hlen] at hrow
      obtain ⟨gb, go, rfl, hgl, _⟩ := hrow.at (show 0 < 7 by decide)
      have hcell : ∀ j, j < 7 → wr.cell? ⟨gb, go + j, none⟩ = some (.int .i64 (nst s 27 j : Nat)) := fun j hj => by
        obtain ⟨b', o', e', _, hc⟩ := hrow.at hj
        cases e'
        rw [finL_get s hj] at hc
        exact hc
      have n0c := hcell 0 (by decide)
      rw [Nat.add_zero] at n0c
      have n1c := hcell 1 (by decide)
      have n2c := hcell 2 (by decide)
      have n3c := hcell 3 (by decide)
      have n4c := hcell 4 (by decide)
      have n5c := hcell 5 (by decide)
      have n6c := hcell 6 (by decide)
      rw [n3] at n3c
      rw [n4] at n4c
      rw [n5] at n5c
      rw [n6] at n6c
      rw [hlen]
      have hbd : h < 1000000 ∧ mi < 1000000 ∧ sc < 1000000 ∧ us < 1000000 := ⟨by rw [← n3]; exact nb 3, by rw [← n4]; exact nb 4, by rw [← n5]; exact nb 5, by rw [← n6]; exact nb 6⟩
      obtain ⟨bd1, bd2, bd3, bd4⟩ := hbd
      have HR4 := Lib.hid hr4
      clear HG HP HA hr4 hrow hcell n3 n4 n5 n6 nb hbad y0 y1 y2 y3 z0 z1 z2 z3
      generalize nst s 27 0 = a0 at *
      generalize nst s 27 1 = a1 at *
      generalize nst s 27 2 = a2 at *
      go_wp2
      have HB5 : Hid (∀ o, Below wr.heap.size wr (wr.alloc o)) := Lib.hid (fun o => (Below.refl _ _).alloc (Nat.le_refl _) _)
      have HT5 : Hid ((wr.alloc (Obj.cells #[Value.int IntKind.i64 3, Value.int IntKind.i64 0] 60)).cell? ⟨wr.heap.size, 0, none⟩ = some (.int .i64 3) ∧ (wr.alloc (Obj.cells #[Value.int IntKind.i64 3, Value.int IntKind.i64 0] 60)).cell? ⟨wr.heap.size, 1, none⟩ = some (.int .i64 0) ∧ wr.heap.size < (wr.alloc (Obj.cells #[Value.int IntKind.i64 3, Value.int IntKind.i64 0] 60)).heap.size) := Lib.hid ⟨by simp, by simp, by simp⟩
      have hgw : gb < wr.heap.size := hgl
      have m0 := HB5.out (Obj.cells #[Value.int IntKind.i64 3, Value.int IntKind.i64 0] 60)
      generalize wr.alloc (Obj.cells #[Value.int IntKind.i64 3, Value.int IntKind.i64 0] 60) = W5 at *
      clear HB5
      rw [← m0.cell (p := ⟨gb, go, none⟩) hgw] at n0c
      rw [← m0.cell (p := ⟨gb, go + 1, none⟩) hgw] at n1c
      rw [← m0.cell (p := ⟨gb, go + 2, none⟩) hgw] at n2c
      rw [← m0.cell (p := ⟨gb, go + 3, none⟩) hgw] at n3c
      rw [← m0.cell (p := ⟨gb, go + 4, none⟩) hgw] at n4c
      rw [← m0.cell (p := ⟨gb, go + 5, none⟩) hgw] at n5c
      rw [← m0.cell (p := ⟨gb, go + 6, none⟩) hgw] at n6c
      obtain ⟨t0, t1, hs5⟩ := HT5.out
      have HR5 := Lib.hid (HR4.out.below m0)
      have HBw5 := Lib.hid (below_step HBw.out m0)
      have hg5 : gb < W5.heap.size := by omega
      have hsr0 : w.heap.size + 1 < wr.heap.size := HR4.out.sz
      clear HT5 m0 HR4 HBw
      have HC : Hid (∀ W', Below W5.heap.size W5 W' → W'.cell? ⟨gb, go, none⟩ = some (.int .i64 a0) ∧ W'.cell? ⟨gb, go + 1, none⟩ = some (.int .i64 a1) ∧ W'.cell? ⟨gb, go + 2, none⟩ = some (.int .i64 a2) ∧ W'.cell? ⟨gb, go + 3, none⟩ = some (.int .i64 h) ∧ W'.cell? ⟨gb, go + 4, none⟩ = some (.int .i64 mi) ∧ W'.cell? ⟨gb, go + 5, none⟩ = some (.int .i64 sc) ∧ W'.cell? ⟨gb, go + 6, none⟩ = some (.int .i64 us)) := Lib.hid (fun W' hb => ⟨by rw [hb.cell (p := ⟨gb, go, none⟩) hg5]; exact n0c, by rw [hb.cell (p := ⟨gb, go + 1, none⟩) hg5]; exact n1c, by rw [hb.cell (p := ⟨gb, go + 2, none⟩) hg5]; exact n2c, by rw [hb.cell (p := ⟨gb, go + 3, none⟩) hg5]; exact n3c, by rw [hb.cell (p := ⟨gb, go + 4, none⟩) hg5]; exact n4c, by rw [hb.cell (p := ⟨gb, go + 5, none⟩) hg5]; exact n5c, by rw [hb.cell (p := ⟨gb, go + 6, none⟩) hg5]; exact n6c⟩)
      go_region_held3 (fun w' => w'.cell? ⟨gb, go, none⟩ = some (.int .i64 a0) ∧ w'.cell? ⟨gb, go + 1, none⟩ = some (.int .i64 a1) ∧ w'.cell? ⟨gb, go + 2, none⟩ = some (.int .i64 a2) ∧ w'.cell? ⟨gb, go + 3, none⟩ = some (.int .i64 h) ∧ w'.cell? ⟨gb, go + 4, none⟩ = some (.int .i64 mi) ∧ w'.cell? ⟨gb, go + 5, none⟩ = some (.int .i64 sc) ∧ w'.cell? ⟨gb, go + 6, none⟩ = some (.int .i64 us))
        (first | go_keep | (exact HC.out _ (below_step (below_drewN (Below.refl _ _) 1) hb3)))
        (first | (go_at_call 59; refine (HDay.out _).mono ?_; rintro e w3 ⟨rfl, hb3⟩))
      have hb53 : Below W5.heap.size W5 w3 := below_step (below_drewN (Below.refl _ _) 1) hb3
      obtain ⟨_, _, _, m3, m4, m5, m6⟩ := HC.out w3 hb53
      have HR3 := Lib.hid (HR5.out.below hb53)
      have HBw3 := Lib.hid (below_step HBw5.out hb53)
      have u0 : w3.cell? ⟨wr.heap.size, 0, none⟩ = some (.int .i64 3) := by rw [hb53.cell (p := ⟨wr.heap.size, 0, none⟩) hs5]; exact t0
      have u1 : w3.cell? ⟨wr.heap.size, 1, none⟩ = some (.int .i64 0) := by rw [hb53.cell (p := ⟨wr.heap.size, 1, none⟩) hs5]; exact t1
      have hs3 := hb53.size
      have hsr : w.heap.size + 1 < wr.heap.size := hsr0
      clear hb3 hb53 n0c n1c n2c n3c n4c n5c n6c t0 t1 HDay HR5 HBw5
      obtain ⟨rfl, ho, hp⟩ := HO.out
      have HQ := Lib.hid hp
      obtain ⟨t1, t2, t3⟩ := ho
      clear hp HO
      have hg3 : gb < w3.heap.size := by omega
      have hgn : ¬ gb = w3.heap.size := by omega
      have d1 : decide (23 < (h : Int)) = false := by simp <;> omega
      have d1' : decide (23 < h) = false := by simp <;> omega
      have d2 : decide (59 < (mi : Int)) = false := by simp <;> omega
      have d2' : decide (59 < mi) = false := by simp <;> omega
      by_cases t5 : sc < 60
      · by_cases t6 : h = 23
        · by_cases t7 : mi = 59
          · have d3 : decide (59 < (sc : Int)) = false := by simp <;> omega
            have d3' : decide (59 < sc) = false := by simp <;> omega
            have d4 : ((h : Int) == 23) = true := by simp <;> omega
            have d5 : ((mi : Int) == 59) = true := by simp <;> omega
            clear t1 t2 t3 t5 t6 t7
            have HC3 : Hid (∀ W', Below w3.heap.size w3 W' → W'.cell? ⟨gb, go + 3, none⟩ = some (.int .i64 h) ∧ W'.cell? ⟨gb, go + 4, none⟩ = some (.int .i64 mi) ∧ W'.cell? ⟨gb, go + 5, none⟩ = some (.int .i64 sc) ∧ W'.cell? ⟨gb, go + 6, none⟩ = some (.int .i64 us)) := Lib.hid (fun W' hb => ⟨by rw [hb.cell (p := ⟨gb, go + 3, none⟩) hg3]; exact m3, by rw [hb.cell (p := ⟨gb, go + 4, none⟩) hg3]; exact m4, by rw [hb.cell (p := ⟨gb, go + 5, none⟩) hg3]; exact m5, by rw [hb.cell (p := ⟨gb, go + 6, none⟩) hg3]; exact m6⟩)
            go_wp2
            go_region_held3 (fun w' => w'.cell? ⟨gb, go + 3, none⟩ = some (.int .i64 h) ∧ w'.cell? ⟨gb, go + 4, none⟩ = some (.int .i64 mi) ∧ w'.cell? ⟨gb, go + 5, none⟩ = some (.int .i64 sc) ∧ w'.cell? ⟨gb, go + 6, none⟩ = some (.int .i64 us))
              (first | (exact HC3.out _ (Below.refl _ _)) | (exact HC3.out _ (Below.refl _ _).drew) | (exact HC3.out _ ((Below.refl _ _).drew.alloc (by simp) _)) | (exact HC3.out _ ((((Below.refl _ _).drew.alloc (by simp) _).setCell (by simp) _).setCell (by simp) _)) | go_keep)
              (fail)
            go_wp2_with fail
            rw [show ((((h : Int) * 3600 + mi * 60 + sc) * 1000000 + us)) = micro by rw [← HM.out]; omega]
            generalize hW6 : (w3.alloc (Obj.cells #[Value.int IntKind.i64 day, Value.int IntKind.i64 micro] 52)).drew = W6
            have h6 : Below w3.heap.size w3 W6 := by rw [← hW6]; exact ((Below.refl _ _).alloc (Nat.le_refl _) _).drew
            have v0 : W6.cell? ⟨w3.heap.size, 0, none⟩ = some (.int .i64 day) := by rw [← hW6]; simp
            have v1 : W6.cell? ⟨w3.heap.size, 1, none⟩ = some (.int .i64 micro) := by rw [← hW6]; simp
            have hs6 : w3.heap.size < W6.heap.size := by rw [← hW6]; simp
            clear hW6 m3 m4 m5 m6 HC HC3
            refine (HInst.out _ (below_step HBw3.out h6)).mono ?_; rintro e w7 ⟨rfl, hb7⟩
            have h7 : Below w3.heap.size w3 w7 := below_step h6 hb7
            have HR7 := Lib.hid (HR3.out.below h7)
            have HBw7 := Lib.hid (below_step HBw3.out h7)
            have x0 : w7.cell? ⟨w3.heap.size, 0, none⟩ = some (.int .i64 day) := by rw [hb7.cell (p := ⟨w3.heap.size, 0, none⟩) hs6]; exact v0
            have x1 : w7.cell? ⟨w3.heap.size, 1, none⟩ = some (.int .i64 micro) := by rw [hb7.cell (p := ⟨w3.heap.size, 1, none⟩) hs6]; exact v1
            have u0' : w7.cell? ⟨wr.heap.size, 0, none⟩ = some (.int .i64 3) := by rw [h7.cell (p := ⟨wr.heap.size, 0, none⟩) (show wr.heap.size < w3.heap.size by omega)]; exact u0
            have u1' : w7.cell? ⟨wr.heap.size, 1, none⟩ = some (.int .i64 0) := by rw [h7.cell (p := ⟨wr.heap.size, 1, none⟩) (show wr.heap.size < w3.heap.size by omega)]; exact u1
            clear u0 u1 v0 v1 h6 h7 hb7 HInst HR3 HBw3 hs6
            rcases HQ.out with ⟨hi0, rfl⟩ | ⟨rfl, rfl⟩
            · clear HQ
              go_wp2
              obtain ⟨rfl, rfl, rfl, rfl⟩ : q1 = 0 ∧ q2 = 0 ∧ q3 = 3 ∧ q4 = 0 := by have := HEn.out (by simp); simp at this; exact this
              have y0 := HR7.out.a0
              have y1 := HR7.out.a1
              have y2 := HR7.out.b0
              have y3 := HR7.out.b1
              have z0 := HR7.out.f0
              have z1 := HR7.out.f1
              have z2 := HR7.out.g0
              have z3 := HR7.out.g1
              have hd1 : ¬ w.heap.size = wr.heap.size := by omega
              have hd2 : ¬ w.heap.size + 1 = wr.heap.size := by omega
              clear HEo HEn
              go_region
              all_goals
                go_wp2
                refine bodyPost_ret (v := .tuple #[.agg #[.int .i64 0, .int .i64 0], .agg #[.int .i64 3, .int .i64 0]]) ?_ rfl ?_
                · simp [results, Tryd.results26, go_sem, y0, y1, y2, y3]
                · exact ⟨rfl, by repeat' first | exact HBw7.out | apply Below.drew | (refine Below.setCell ?_ (by simp) _)⟩
            · clear HQ
              obtain ⟨rfl, rfl, rfl, rfl⟩ : q1 = day ∧ q2 = micro ∧ q3 = 0 ∧ q4 = -1 := by have := HEo.out (by simp); simp at this; exact this
              have y0 := HR7.out.a0
              have y1 := HR7.out.a1
              have y2 := HR7.out.b0
              have y3 := HR7.out.b1
              have z0 := HR7.out.f0
              have z1 := HR7.out.f1
              have z2 := HR7.out.g0
              have z3 := HR7.out.g1
              clear HEo HEn
              go_wp2
              refine bodyPost_ret (v := .tuple #[.agg #[.int .i64 q1, .int .i64 q2], .agg #[.int .i64 0, .int .i64 (-1)]]) ?_ rfl ?_
              · simp [results, Tryd.results26, go_sem, y0, y1, y2, y3]
              · exact ⟨rfl, by repeat' first | exact HBw7.out | apply Below.drew | (refine Below.setCell ?_ (by simp) _)⟩
          · have d3 : decide (59 < (sc : Int)) = false := by simp <;> omega
            have d3' : decide (59 < sc) = false := by simp <;> omega
            have d4 : ((h : Int) == 23) = true := by simp <;> omega
            have d5 : ((mi : Int) == 59) = false := by simp <;> omega
            clear t1 t2 t3 t5 t6 t7
            have HC3 : Hid (∀ W', Below w3.heap.size w3 W' → W'.cell? ⟨gb, go + 3, none⟩ = some (.int .i64 h) ∧ W'.cell? ⟨gb, go + 4, none⟩ = some (.int .i64 mi) ∧ W'.cell? ⟨gb, go + 5, none⟩ = some (.int .i64 sc) ∧ W'.cell? ⟨gb, go + 6, none⟩ = some (.int .i64 us)) := Lib.hid (fun W' hb => ⟨by rw [hb.cell (p := ⟨gb, go + 3, none⟩) hg3]; exact m3, by rw [hb.cell (p := ⟨gb, go + 4, none⟩) hg3]; exact m4, by rw [hb.cell (p := ⟨gb, go + 5, none⟩) hg3]; exact m5, by rw [hb.cell (p := ⟨gb, go + 6, none⟩) hg3]; exact m6⟩)
            go_wp2
            go_region_held3 (fun w' => w'.cell? ⟨gb, go + 3, none⟩ = some (.int .i64 h) ∧ w'.cell? ⟨gb, go + 4, none⟩ = some (.int .i64 mi) ∧ w'.cell? ⟨gb, go + 5, none⟩ = some (.int .i64 sc) ∧ w'.cell? ⟨gb, go + 6, none⟩ = some (.int .i64 us))
              (first | (exact HC3.out _ (Below.refl _ _)) | (exact HC3.out _ (Below.refl _ _).drew) | (exact HC3.out _ ((Below.refl _ _).drew.alloc (by simp) _)) | (exact HC3.out _ ((((Below.refl _ _).drew.alloc (by simp) _).setCell (by simp) _).setCell (by simp) _)) | go_keep)
              (fail)
            go_wp2_with fail
            rw [show ((((h : Int) * 3600 + mi * 60 + sc) * 1000000 + us)) = micro by rw [← HM.out]; omega]
            generalize hW6 : (w3.alloc (Obj.cells #[Value.int IntKind.i64 day, Value.int IntKind.i64 micro] 52)).drew = W6
            have h6 : Below w3.heap.size w3 W6 := by rw [← hW6]; exact ((Below.refl _ _).alloc (Nat.le_refl _) _).drew
            have v0 : W6.cell? ⟨w3.heap.size, 0, none⟩ = some (.int .i64 day) := by rw [← hW6]; simp
            have v1 : W6.cell? ⟨w3.heap.size, 1, none⟩ = some (.int .i64 micro) := by rw [← hW6]; simp
            have hs6 : w3.heap.size < W6.heap.size := by rw [← hW6]; simp
            clear hW6 m3 m4 m5 m6 HC HC3
            refine (HInst.out _ (below_step HBw3.out h6)).mono ?_; rintro e w7 ⟨rfl, hb7⟩
            have h7 : Below w3.heap.size w3 w7 := below_step h6 hb7
            have HR7 := Lib.hid (HR3.out.below h7)
            have HBw7 := Lib.hid (below_step HBw3.out h7)
            have x0 : w7.cell? ⟨w3.heap.size, 0, none⟩ = some (.int .i64 day) := by rw [hb7.cell (p := ⟨w3.heap.size, 0, none⟩) hs6]; exact v0
            have x1 : w7.cell? ⟨w3.heap.size, 1, none⟩ = some (.int .i64 micro) := by rw [hb7.cell (p := ⟨w3.heap.size, 1, none⟩) hs6]; exact v1
            have u0' : w7.cell? ⟨wr.heap.size, 0, none⟩ = some (.int .i64 3) := by rw [h7.cell (p := ⟨wr.heap.size, 0, none⟩) (show wr.heap.size < w3.heap.size by omega)]; exact u0
            have u1' : w7.cell? ⟨wr.heap.size, 1, none⟩ = some (.int .i64 0) := by rw [h7.cell (p := ⟨wr.heap.size, 1, none⟩) (show wr.heap.size < w3.heap.size by omega)]; exact u1
            clear u0 u1 v0 v1 h6 h7 hb7 HInst HR3 HBw3 hs6
            rcases HQ.out with ⟨hi0, rfl⟩ | ⟨rfl, rfl⟩
            · clear HQ
              go_wp2
              obtain ⟨rfl, rfl, rfl, rfl⟩ : q1 = 0 ∧ q2 = 0 ∧ q3 = 3 ∧ q4 = 0 := by have := HEn.out (by simp); simp at this; exact this
              have y0 := HR7.out.a0
              have y1 := HR7.out.a1
              have y2 := HR7.out.b0
              have y3 := HR7.out.b1
              have z0 := HR7.out.f0
              have z1 := HR7.out.f1
              have z2 := HR7.out.g0
              have z3 := HR7.out.g1
              have hd1 : ¬ w.heap.size = wr.heap.size := by omega
              have hd2 : ¬ w.heap.size + 1 = wr.heap.size := by omega
              clear HEo HEn
              go_region
              all_goals
                go_wp2
                refine bodyPost_ret (v := .tuple #[.agg #[.int .i64 0, .int .i64 0], .agg #[.int .i64 3, .int .i64 0]]) ?_ rfl ?_
                · simp [results, Tryd.results26, go_sem, y0, y1, y2, y3]
                · exact ⟨rfl, by repeat' first | exact HBw7.out | apply Below.drew | (refine Below.setCell ?_ (by simp) _)⟩
            · clear HQ
              obtain ⟨rfl, rfl, rfl, rfl⟩ : q1 = day ∧ q2 = micro ∧ q3 = 0 ∧ q4 = -1 := by have := HEo.out (by simp); simp at this; exact this
              have y0 := HR7.out.a0
              have y1 := HR7.out.a1
              have y2 := HR7.out.b0
              have y3 := HR7.out.b1
              have z0 := HR7.out.f0
              have z1 := HR7.out.f1
              have z2 := HR7.out.g0
              have z3 := HR7.out.g1
              clear HEo HEn
              go_wp2
              refine bodyPost_ret (v := .tuple #[.agg #[.int .i64 q1, .int .i64 q2], .agg #[.int .i64 0, .int .i64 (-1)]]) ?_ rfl ?_
              · simp [results, Tryd.results26, go_sem, y0, y1, y2, y3]
              · exact ⟨rfl, by repeat' first | exact HBw7.out | apply Below.drew | (refine Below.setCell ?_ (by simp) _)⟩
        · have d3 : decide (59 < (sc : Int)) = false := by simp <;> omega
          have d3' : decide (59 < sc) = false := by simp <;> omega
          have d4 : ((h : Int) == 23) = false := by simp <;> omega
          clear t1 t2 t3 t5 t6
          have HC3 : Hid (∀ W', Below w3.heap.size w3 W' → W'.cell? ⟨gb, go + 3, none⟩ = some (.int .i64 h) ∧ W'.cell? ⟨gb, go + 4, none⟩ = some (.int .i64 mi) ∧ W'.cell? ⟨gb, go + 5, none⟩ = some (.int .i64 sc) ∧ W'.cell? ⟨gb, go + 6, none⟩ = some (.int .i64 us)) := Lib.hid (fun W' hb => ⟨by rw [hb.cell (p := ⟨gb, go + 3, none⟩) hg3]; exact m3, by rw [hb.cell (p := ⟨gb, go + 4, none⟩) hg3]; exact m4, by rw [hb.cell (p := ⟨gb, go + 5, none⟩) hg3]; exact m5, by rw [hb.cell (p := ⟨gb, go + 6, none⟩) hg3]; exact m6⟩)
          go_wp2
          go_region_held3 (fun w' => w'.cell? ⟨gb, go + 3, none⟩ = some (.int .i64 h) ∧ w'.cell? ⟨gb, go + 4, none⟩ = some (.int .i64 mi) ∧ w'.cell? ⟨gb, go + 5, none⟩ = some (.int .i64 sc) ∧ w'.cell? ⟨gb, go + 6, none⟩ = some (.int .i64 us))
            (first | (exact HC3.out _ (Below.refl _ _)) | (exact HC3.out _ (Below.refl _ _).drew) | (exact HC3.out _ ((Below.refl _ _).drew.alloc (by simp) _)) | (exact HC3.out _ ((((Below.refl _ _).drew.alloc (by simp) _).setCell (by simp) _).setCell (by simp) _)) | go_keep)
            (fail)
          go_wp2_with fail
          rw [show ((((h : Int) * 3600 + mi * 60 + sc) * 1000000 + us)) = micro by rw [← HM.out]; omega]
          generalize hW6 : (w3.alloc (Obj.cells #[Value.int IntKind.i64 day, Value.int IntKind.i64 micro] 52)).drew = W6
          have h6 : Below w3.heap.size w3 W6 := by rw [← hW6]; exact ((Below.refl _ _).alloc (Nat.le_refl _) _).drew
          have v0 : W6.cell? ⟨w3.heap.size, 0, none⟩ = some (.int .i64 day) := by rw [← hW6]; simp
          have v1 : W6.cell? ⟨w3.heap.size, 1, none⟩ = some (.int .i64 micro) := by rw [← hW6]; simp
          have hs6 : w3.heap.size < W6.heap.size := by rw [← hW6]; simp
          clear hW6 m3 m4 m5 m6 HC HC3
          refine (HInst.out _ (below_step HBw3.out h6)).mono ?_; rintro e w7 ⟨rfl, hb7⟩
          have h7 : Below w3.heap.size w3 w7 := below_step h6 hb7
          have HR7 := Lib.hid (HR3.out.below h7)
          have HBw7 := Lib.hid (below_step HBw3.out h7)
          have x0 : w7.cell? ⟨w3.heap.size, 0, none⟩ = some (.int .i64 day) := by rw [hb7.cell (p := ⟨w3.heap.size, 0, none⟩) hs6]; exact v0
          have x1 : w7.cell? ⟨w3.heap.size, 1, none⟩ = some (.int .i64 micro) := by rw [hb7.cell (p := ⟨w3.heap.size, 1, none⟩) hs6]; exact v1
          have u0' : w7.cell? ⟨wr.heap.size, 0, none⟩ = some (.int .i64 3) := by rw [h7.cell (p := ⟨wr.heap.size, 0, none⟩) (show wr.heap.size < w3.heap.size by omega)]; exact u0
          have u1' : w7.cell? ⟨wr.heap.size, 1, none⟩ = some (.int .i64 0) := by rw [h7.cell (p := ⟨wr.heap.size, 1, none⟩) (show wr.heap.size < w3.heap.size by omega)]; exact u1
          clear u0 u1 v0 v1 h6 h7 hb7 HInst HR3 HBw3 hs6
          rcases HQ.out with ⟨hi0, rfl⟩ | ⟨rfl, rfl⟩
          · clear HQ
            go_wp2
            obtain ⟨rfl, rfl, rfl, rfl⟩ : q1 = 0 ∧ q2 = 0 ∧ q3 = 3 ∧ q4 = 0 := by have := HEn.out (by simp); simp at this; exact this
            have y0 := HR7.out.a0
            have y1 := HR7.out.a1
            have y2 := HR7.out.b0
            have y3 := HR7.out.b1
            have z0 := HR7.out.f0
            have z1 := HR7.out.f1
            have z2 := HR7.out.g0
            have z3 := HR7.out.g1
            have hd1 : ¬ w.heap.size = wr.heap.size := by omega
            have hd2 : ¬ w.heap.size + 1 = wr.heap.size := by omega
            clear HEo HEn
            go_region
            all_goals
              go_wp2
              refine bodyPost_ret (v := .tuple #[.agg #[.int .i64 0, .int .i64 0], .agg #[.int .i64 3, .int .i64 0]]) ?_ rfl ?_
              · simp [results, Tryd.results26, go_sem, y0, y1, y2, y3]
              · exact ⟨rfl, by repeat' first | exact HBw7.out | apply Below.drew | (refine Below.setCell ?_ (by simp) _)⟩
          · clear HQ
            obtain ⟨rfl, rfl, rfl, rfl⟩ : q1 = day ∧ q2 = micro ∧ q3 = 0 ∧ q4 = -1 := by have := HEo.out (by simp); simp at this; exact this
            have y0 := HR7.out.a0
            have y1 := HR7.out.a1
            have y2 := HR7.out.b0
            have y3 := HR7.out.b1
            have z0 := HR7.out.f0
            have z1 := HR7.out.f1
            have z2 := HR7.out.g0
            have z3 := HR7.out.g1
            clear HEo HEn
            go_wp2
            refine bodyPost_ret (v := .tuple #[.agg #[.int .i64 q1, .int .i64 q2], .agg #[.int .i64 0, .int .i64 (-1)]]) ?_ rfl ?_
            · simp [results, Tryd.results26, go_sem, y0, y1, y2, y3]
            · exact ⟨rfl, by repeat' first | exact HBw7.out | apply Below.drew | (refine Below.setCell ?_ (by simp) _)⟩
      · obtain ⟨t6, t7⟩ : h = 23 ∧ mi = 59 := by omega
        have d3 : decide (59 < (sc : Int)) = true := by simp <;> omega
        have d3' : decide (59 < sc) = true := by simp <;> omega
        have d4 : ((h : Int) == 23) = true := by simp <;> omega
        have d5 : ((mi : Int) == 59) = true := by simp <;> omega
        clear t1 t2 t3 t5 t6 t7
        have HC3 : Hid (∀ W', Below w3.heap.size w3 W' → W'.cell? ⟨gb, go + 3, none⟩ = some (.int .i64 h) ∧ W'.cell? ⟨gb, go + 4, none⟩ = some (.int .i64 mi) ∧ W'.cell? ⟨gb, go + 5, none⟩ = some (.int .i64 sc) ∧ W'.cell? ⟨gb, go + 6, none⟩ = some (.int .i64 us)) := Lib.hid (fun W' hb => ⟨by rw [hb.cell (p := ⟨gb, go + 3, none⟩) hg3]; exact m3, by rw [hb.cell (p := ⟨gb, go + 4, none⟩) hg3]; exact m4, by rw [hb.cell (p := ⟨gb, go + 5, none⟩) hg3]; exact m5, by rw [hb.cell (p := ⟨gb, go + 6, none⟩) hg3]; exact m6⟩)
        go_wp2
        go_region_held3 (fun w' => w'.cell? ⟨gb, go + 3, none⟩ = some (.int .i64 h) ∧ w'.cell? ⟨gb, go + 4, none⟩ = some (.int .i64 mi) ∧ w'.cell? ⟨gb, go + 5, none⟩ = some (.int .i64 sc) ∧ w'.cell? ⟨gb, go + 6, none⟩ = some (.int .i64 us))
          (first | (exact HC3.out _ (Below.refl _ _)) | (exact HC3.out _ (Below.refl _ _).drew) | (exact HC3.out _ ((Below.refl _ _).drew.alloc (by simp) _)) | (exact HC3.out _ ((((Below.refl _ _).drew.alloc (by simp) _).setCell (by simp) _).setCell (by simp) _)) | go_keep)
          (fail)
        go_wp2_with fail
        rw [show ((((h : Int) * 3600 + mi * 60 + sc) * 1000000 + us)) = micro by rw [← HM.out]; omega]
        generalize hW6 : (w3.alloc (Obj.cells #[Value.int IntKind.i64 day, Value.int IntKind.i64 micro] 52)).drew = W6
        have h6 : Below w3.heap.size w3 W6 := by rw [← hW6]; exact ((Below.refl _ _).alloc (Nat.le_refl _) _).drew
        have v0 : W6.cell? ⟨w3.heap.size, 0, none⟩ = some (.int .i64 day) := by rw [← hW6]; simp
        have v1 : W6.cell? ⟨w3.heap.size, 1, none⟩ = some (.int .i64 micro) := by rw [← hW6]; simp
        have hs6 : w3.heap.size < W6.heap.size := by rw [← hW6]; simp
        clear hW6 m3 m4 m5 m6 HC HC3
        refine (HInst.out _ (below_step HBw3.out h6)).mono ?_; rintro e w7 ⟨rfl, hb7⟩
        have h7 : Below w3.heap.size w3 w7 := below_step h6 hb7
        have HR7 := Lib.hid (HR3.out.below h7)
        have HBw7 := Lib.hid (below_step HBw3.out h7)
        have x0 : w7.cell? ⟨w3.heap.size, 0, none⟩ = some (.int .i64 day) := by rw [hb7.cell (p := ⟨w3.heap.size, 0, none⟩) hs6]; exact v0
        have x1 : w7.cell? ⟨w3.heap.size, 1, none⟩ = some (.int .i64 micro) := by rw [hb7.cell (p := ⟨w3.heap.size, 1, none⟩) hs6]; exact v1
        have u0' : w7.cell? ⟨wr.heap.size, 0, none⟩ = some (.int .i64 3) := by rw [h7.cell (p := ⟨wr.heap.size, 0, none⟩) (show wr.heap.size < w3.heap.size by omega)]; exact u0
        have u1' : w7.cell? ⟨wr.heap.size, 1, none⟩ = some (.int .i64 0) := by rw [h7.cell (p := ⟨wr.heap.size, 1, none⟩) (show wr.heap.size < w3.heap.size by omega)]; exact u1
        clear u0 u1 v0 v1 h6 h7 hb7 HInst HR3 HBw3 hs6
        rcases HQ.out with ⟨hi0, rfl⟩ | ⟨rfl, rfl⟩
        · clear HQ
          go_wp2
          obtain ⟨rfl, rfl, rfl, rfl⟩ : q1 = 0 ∧ q2 = 0 ∧ q3 = 3 ∧ q4 = 0 := by have := HEn.out (by simp); simp at this; exact this
          have y0 := HR7.out.a0
          have y1 := HR7.out.a1
          have y2 := HR7.out.b0
          have y3 := HR7.out.b1
          have z0 := HR7.out.f0
          have z1 := HR7.out.f1
          have z2 := HR7.out.g0
          have z3 := HR7.out.g1
          have hd1 : ¬ w.heap.size = wr.heap.size := by omega
          have hd2 : ¬ w.heap.size + 1 = wr.heap.size := by omega
          clear HEo HEn
          go_region
          all_goals
            go_wp2
            refine bodyPost_ret (v := .tuple #[.agg #[.int .i64 0, .int .i64 0], .agg #[.int .i64 3, .int .i64 0]]) ?_ rfl ?_
            · simp [results, Tryd.results26, go_sem, y0, y1, y2, y3]
            · exact ⟨rfl, by repeat' first | exact HBw7.out | apply Below.drew | (refine Below.setCell ?_ (by simp) _)⟩
        · clear HQ
          obtain ⟨rfl, rfl, rfl, rfl⟩ : q1 = day ∧ q2 = micro ∧ q3 = 0 ∧ q4 = -1 := by have := HEo.out (by simp); simp at this; exact this
          have y0 := HR7.out.a0
          have y1 := HR7.out.a1
          have y2 := HR7.out.b0
          have y3 := HR7.out.b1
          have z0 := HR7.out.f0
          have z1 := HR7.out.f1
          have z2 := HR7.out.g0
          have z3 := HR7.out.g1
          clear HEo HEn
          go_wp2
          refine bodyPost_ret (v := .tuple #[.agg #[.int .i64 q1, .int .i64 q2], .agg #[.int .i64 0, .int .i64 (-1)]]) ?_ rfl ?_
          · simp [results, Tryd.results26, go_sem, y0, y1, y2, y3]
          · exact ⟨rfl, by repeat' first | exact HBw7.out | apply Below.drew | (refine Below.setCell ?_ (by simp) _)⟩
    have hi27 : i < 27 := by omega
    have hix := fun W => fr_at i hi27 W
    have hsep := sep_le i hi27
    have hn := (nst_bd i hi HG.out).1 (sep i)
    have hr4 := HI.out.below HA.out.2
    have y0 := hr4.a0
    have y1 := hr4.a1
    have y2 := hr4.b0
    have y3 := hr4.b1
    have z0 := hr4.f0
    have z1 := hr4.f1
    have z2 := hr4.g0
    have z3 := hr4.g1
    have hne : ¬ w.heap.size = w.heap.size + 1 := by omega
    have hne' : ¬ w.heap.size + 1 = w.heap.size := by omega
    have HBw := Lib.hid (below_step HB2.out HA.out.2)
    clear hr4
    by_cases cl : i < s.size
    · have hub : s[i].toNat < 256 := s[i].toNat_lt
      have hbt := bt_in cl
      have b1 : decide ((s.size : Int) ≤ (i : Int)) = false := by simp; omega
      have b1' : decide (s.size ≤ i) = false := by simp; omega
      cases hdg : digF i with
      | true =>
        have hf : frF i = 100 := by unfold frF; rw [hdg]; rfl
        rw [hf] at hix
        unfold formR at hix
        have k1 : ((100 : Int) == 100) = true := by decide
        by_cases c1 : 48 ≤ s[i].toNat ∧ s[i].toNat ≤ 57
        · have HG1 : Hid (goodAt s i) := Lib.hid ⟨cl, Or.inl ⟨hdg, by rw [hbt]; exact c1⟩⟩
          have HG2 : Hid (∀ j, j < i + 1 → goodAt s j) := Lib.hid (fun j hj => by
            rcases Nat.lt_or_ge j i with h | h
            · exact HG.out j h
            · rw [show j = i by omega]; exact HG1.out)
          have HP2 : Hid (badF s (27 - (i + 1)) (i + 1) = badF s 27 0) := Lib.hid (by rw [← badF_good HG1.out hi27]; exact HP.out)
          have HS : Hid (((nst s (i + 1) (sep (i + 1)) : Nat) : Int) = (nst s i (sep i) : Nat) * 10 + ((s[i].toNat : Int) - 48)) := Lib.hid (by rw [sep_d hdg, nst_d hdg, upN_at, hbt]; omega)
          have HL : Hid (Gath W2 u8 (finL s (i + 1)) wr) := Lib.hid (by rw [finL_d hdg]; exact HA.out)
          obtain ⟨c11, c12⟩ := c1
          have hd : (decide (48 ≤ s[i].toNat) && decide (s[i].toNat ≤ 57)) = true := by simp [c11, c12]
          have HD := Lib.hid (fun W => isDigit_any s[i].toNat W)
          rw [hd] at HD
          clear hf hbt hdg HG HP HG1 HA hd y0 y1 y2 y3 z0 z1 z2 z3
          generalize nst s i (sep i) = N at *
          go_wp2_with fail
          refine (HD.out _).mono ?_; rintro e w3 ⟨rfl, rfl⟩
          clear HD
          go_wp2
          go_roundw
          case rel => exact ⟨i + 1, by omega, by rw [HS.out], by go_num, HG2, HP2, HL⟩
          case measure => simp [intOf]; omega
        · exfalso
          rcases (HGG.out i hi27).2 with ⟨_, g2⟩ | ⟨g1, _⟩
          · rw [hbt] at g2; exact c1 g2
          · rw [hdg] at g1; cases g1
      | false =>
        obtain ⟨g1, g2⟩ := sigF_ne2 i
        have hf : frF i = sigF i := by unfold frF; rw [hdg]; rfl
        rw [hf] at hix
        unfold formR at hix
        have HD := Lib.hid (fun W => isDigit_any s[i].toNat W)
        generalize (decide (48 ≤ s[i].toNat) && decide (s[i].toNat ≤ 57)) = db at *
        have k1 : ((sigF i : Int) == 100) = false := by simp; omega
        by_cases c1 : s[i].toNat = sigF i
        · have HG1 : Hid (goodAt s i) := Lib.hid ⟨cl, Or.inr ⟨hdg, by rw [hbt]; exact c1⟩⟩
          have HG2 : Hid (∀ j, j < i + 1 → goodAt s j) := Lib.hid (fun j hj => by
            rcases Nat.lt_or_ge j i with h | h
            · exact HG.out j h
            · rw [show j = i by omega]; exact HG1.out)
          have HP2 : Hid (badF s (27 - (i + 1)) (i + 1) = badF s 27 0) := Lib.hid (by rw [← badF_good HG1.out hi27]; exact HP.out)
          have HS : Hid (nst s (i + 1) (sep (i + 1)) = 0) := Lib.hid (by rw [sep_s hdg, nst_s hdg]; exact (nst_bd i hi HG.out).2.2 _ (by omega))
          have HL : Hid (finL s (i + 1) = finL s i ++ [((nst s i (sep i) : Nat) : Int)]) := Lib.hid (finL_s hdg)
          have hlen : (finL s i).length ≤ 6 := by rw [finL_len]; exact hsep
          have hos := Lib.hid (fun k o => World.ownsRow.alloc (show (wr.drewN k).ownsRow W2.heap.size 3 1 u8 (finL s i).length ((finL s i).map (Value.int .i64)) from own_drewN HA.out.1 k) o)
          have hsz := HA.out.2.size
          have k3 : ((s[i].toNat : Int) != (sigF i : Int)) = false := by simp; omega
          have HAA := Lib.hid (fun k => (show Gath W2 u8 (finL s i) (wr.drewN k) from ⟨own_drewN HA.out.1 k, below_drewN HA.out.2 k⟩))
          clear hf hbt hdg HG HP HG1 HA y0 y1 y2 y3 z0 z1 z2 z3 c1
          generalize sigF i = C at *
          generalize nst s i (sep i) = N at *
          generalize finL s i = L at *
          go_wp2_with fail
          refine (HD.out _).mono ?_; rintro e w3 ⟨rfl, rfl⟩
          clear HD
          go_wp2
          go_quiet (fail)
          have hcn := new_cellD wr nq (.int .i64 (N : Int)) 3
          have hsz2 : W2.heap.size ≤ ((wr.drewN nq).alloc (.cells #[.int .i64 (N : Int)] 3)).heap.size := by simp; omega
          go_wp2_with (first
            | (at_builtin; refine wpList_append_own_at _ rfl _ _ 29 rfl W2.heap.size 3 j0 (.int .i64 0) 1 8 Tryd.underlying29 ji jz0 jz1 jz2 rfl (by decide) u8 L.length (L.map (Value.int .i64)) rfl (hos.out _ _) ⟨wr.heap.size, 0, none⟩ 1 1 [.int .i64 (N : Int)] rfl rfl ?c1 ?c2 ?c3 ?c4 ?c5 ?_)
            | fail)
          case c1 =>
            intro j u hj
            match j, hj with
            | 0, hj => simp at hj; subst hj; exact hcn
          case c2 =>
            intro u hu
            simp only [List.mem_cons, List.not_mem_nil, or_false] at hu
            subst hu; rfl
          case c3 => unfold maxLen; omega
          case c4 => omega
          case c5 => exact hsz2
          intro v' w4 hown hgrow _ _
          have R := Lib.hid (Gath.step (HAA.out _) hown hgrow)
          clear hown hgrow hos HAA
          go_wp2
          go_roundw
          case rel => exact ⟨i + 1, by omega, by rw [HS.out]; rfl, by go_num, HG2, HP2, Lib.hid (by rw [HL.out]; exact R.out)⟩
          case measure => simp [intOf]; omega
        · exfalso
          rcases (HGG.out i hi27).2 with ⟨g1, _⟩ | ⟨_, g2⟩
          · rw [hdg] at g1; cases g1
          · rw [hbt] at g2; exact c1 g2
    · exact absurd (HGG.out i hi27).1 cl
end Go.Proofs.YtjdjncfpcbeedaaDoor
