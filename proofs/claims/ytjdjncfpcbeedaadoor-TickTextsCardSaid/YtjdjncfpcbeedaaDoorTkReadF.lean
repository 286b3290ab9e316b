/- tick.Read at a text that fits the form. -/
import Derived.Test.YtjdjncfpcbeedaaDoorTkReadL
namespace Go.Proofs.YtjdjncfpcbeedaaDoor
open Go.RowKit

theorem Row7.below {A R i : Nat} {s : ByteArray} {w wr w2 : World} (h : Row7 A R s i w wr) (hA : A < wr.heap.size) (hR : R < wr.heap.size) (hb : Below wr.heap.size wr w2) : Row7 A R s i w w2 :=
  ⟨fun j hj => by rw [hb.cell (p := ⟨A, j, none⟩) hA]; exact h.num j hj, fun j => by rw [hb.frozen (p := ⟨A, j, none⟩) hA]; exact h.free j, by rw [hb.cell (p := ⟨R, 0, none⟩) hR]; exact h.r0, by rw [hb.cell (p := ⟨R, 1, none⟩) hR]; exact h.r1, by rw [hb.frozen (p := ⟨R, 0, none⟩) hR]; exact h.f0, by rw [hb.frozen (p := ⟨R, 1, none⟩) hR]; exact h.f1, below_step h.bel hb⟩
/-- Is the time of day one? -/
def timeOk (h mi sc : Nat) : Prop := h < 24 ∧ mi < 60 ∧ (sc < 60 ∨ (h = 23 ∧ mi = 59))
def isErr (v : Value) : Prop := ∃ T p, v = .iface T p
def fitO (ev iv : Value) (h mi sc : Nat) (ok : Bool) : Prop :=
  (isErr ev ∧ ok = false) ∨ (ev = .nilIface ∧ ((¬ timeOk h mi sc ∧ ok = false) ∨ (timeOk h mi sc ∧ ((isErr iv ∧ ok = false) ∨ (iv = .nilIface ∧ ok = true)))))
def readR (ad : Nat → Addr) (w : World) (day micro : Int) (ok : Bool) (e : Ending) (w' : World) : Prop :=
  (ok = true ∧ e = .returned (.tuple #[.agg #[.int .i64 day, .int .i64 micro], .nilIface]) ∧ Below w.heap.size w w') ∨
  (ok = false ∧ ∃ f, w.heap.size ≤ f ∧ e = .returned (.tuple #[.agg #[.int .i64 0, .int .i64 0], faultV f]) ∧ w'.cell? ⟨f, 0, none⟩ = some (.int .i64 0) ∧ w'.cell? ⟨f, 1, none⟩ = some (errV ad 2) ∧ Below w.heap.size w w')
set_option maxRecDepth 20000 in
set_option maxHeartbeats 8000000 in
theorem tkRead_fit (ad : Nat → Addr) (V : Value) (s : ByteArray) (hs : s.size = 27) (w : World) (hE : Sents w ad) (hg : ∀ j, j < 27 → goodAt s j) (day inst micro : Int) (ev iv : Value) (ok : Bool) (h mi sc us : Nat)
    (h3 : nst s 27 3 = h) (h4 : nst s 27 4 = mi) (h5 : nst s 27 5 = sc) (h6 : nst s 27 6 = us) (hmc : (((h : Int) * 60 + mi) * 60 + sc) * 1000000 + us = micro)
    (HDay : Hid (∀ W, Below w.heap.size w W → Calls Tryd.prog 56 #[.int .i64 (nst s 27 0 : Nat), .int .i64 (nst s 27 1 : Nat), .int .i64 (nst s 27 2 : Nat)] W fun e w' => e = .returned (.tuple #[.int .i64 day, ev]) ∧ Below W.heap.size W w'))
    (HInst : Hid (∀ W, Below w.heap.size w W → Calls Tryd.prog 49 #[V, .agg #[.int .i64 day, .int .i64 micro]] W fun e w' => e = .returned (.tuple #[.int .i64 inst, iv]) ∧ Below W.heap.size W w'))
    (hO : fitO ev iv h mi sc ok)
    (HV : Hid (∀ o, Calls Tryd.prog 55 #[V] (w.alloc o) fun e w' => e = .returned .nilIface ∧ Below (w.alloc o).heap.size (w.alloc o) w')) :
    Calls Tryd.prog 25 #[V, .string s] w fun e w' => readR ad w day micro ok e w' := by
  have HO := Lib.hid hO
  have hl : Hid (s.size = 27) := Lib.hid hs
  have HN : Hid (nst s 27 3 = h ∧ nst s 27 4 = mi ∧ nst s 27 5 = sc ∧ nst s 27 6 = us) := Lib.hid ⟨h3, h4, h5, h6⟩
  have HM := Lib.hid hmc
  have hs' : s.size ≤ 1000000 := by omega
  clear hO hs h3 h4 h5 h6 hmc
  have HE := Lib.hid hE
  have HGA := Lib.hid hg
  clear hE hg
  go_enter Tryd.func25, Tryd.ntmps25
  go_wp2_with fail
  refine (HV.out _).mono ?_; rintro e w1 ⟨rfl, hb1⟩
  have hs1 : w.heap.size < w1.heap.size := by have := hb1.size; simp at this; omega
  have HR : Hid (∀ o, o = .cells #[.int .i64 0, .int .i64 0, .int .i64 0, .int .i64 0, .int .i64 0, .int .i64 0, .int .i64 0] 102 → Row7 w1.heap.size w.heap.size s 0 w (w1.alloc o)) := Lib.hid (fun o ho => by
    subst ho
    refine ⟨fun j hj => ?_, fun j => by simp, ?_, ?_, ?_, ?_, ?_⟩
    · rcases j with _ | _ | _ | _ | _ | _ | _ | j
      all_goals first | omega | (simp; rfl) | simp [nst]
    · rw [World.cell?_alloc_lt _ _ ⟨w.heap.size, 0, none⟩ hs1, hb1.cell (p := ⟨w.heap.size, 0, none⟩) (by simp)]; simp
    · rw [World.cell?_alloc_lt _ _ ⟨w.heap.size, 1, none⟩ hs1, hb1.cell (p := ⟨w.heap.size, 1, none⟩) (by simp)]; simp
    · rw [World.frozen?_alloc_old _ _ ⟨w.heap.size, 0, none⟩ (by simp; omega), hb1.frozen (p := ⟨w.heap.size, 0, none⟩) (by simp)]; simp
    · rw [World.frozen?_alloc_old _ _ ⟨w.heap.size, 1, none⟩ (by simp; omega), hb1.frozen (p := ⟨w.heap.size, 1, none⟩) (by simp)]; simp
    · exact (below_step ((Below.refl _ _).alloc (Nat.le_refl _) _) hb1).alloc (by omega) _)
  clear hb1 HV
  go_wp2
  go_loopw [8, 21] (fun k v wr => ∃ i : Nat, i ≤ 27 ∧ k = .int .i64 (sep i : Nat) ∧ v = .int .i64 i ∧ Hid (Row7 w1.heap.size w.heap.size s i w wr)) (fun _ v _ => 27 - (intOf v).toNat)
  case atStart => exact ⟨0, by omega, rfl, rfl, Lib.hid (HR.out _ rfl)⟩
  case round =>
    obtain ⟨i, hi, rfl, rfl, HW⟩ := hrel
    by_cases c27 : i = 27
    · subst c27
      have HW0 := HW
      obtain ⟨n3, n4, n5, n6⟩ := HN.out
      obtain ⟨nb, _⟩ := nst_bd 27 (Nat.le_refl _) HGA.out
      have z0 := HW.out.num 0 (by decide)
      have z1 := HW.out.num 1 (by decide)
      have z2 := HW.out.num 2 (by decide)
      have hAl := cell_lt z0
      have hRl := cell_lt HW.out.r0
      clear nb HR
      have hsz := hl.out
      go_wp2_with fail
      refine (HDay.out _ HW.out.bel).mono ?_; rintro e w2 ⟨rfl, hb2⟩
      have HW2 := Lib.hid (HW.out.below hAl hRl hb2)
      have hs2 := hb2.size
      have hA2 : w1.heap.size < w2.heap.size := by omega
      have hR2 : w.heap.size < w2.heap.size := by omega
      have q3 : w2.cell? ⟨w1.heap.size, 3, none⟩ = some (.int .i64 (h : Nat)) := by rw [← n3]; exact HW2.out.num 3 (by decide)
      have q4 : w2.cell? ⟨w1.heap.size, 4, none⟩ = some (.int .i64 (mi : Nat)) := by rw [← n4]; exact HW2.out.num 4 (by decide)
      have q5 : w2.cell? ⟨w1.heap.size, 5, none⟩ = some (.int .i64 (sc : Nat)) := by rw [← n5]; exact HW2.out.num 5 (by decide)
      have q6 : w2.cell? ⟨w1.heap.size, 6, none⟩ = some (.int .i64 (us : Nat)) := by rw [← n6]; exact HW2.out.num 6 (by decide)
      have hbd : h < 1000000 ∧ mi < 1000000 ∧ sc < 1000000 ∧ us < 1000000 := ⟨by rw [← n3]; exact (nst_bd 27 (Nat.le_refl _) HGA.out).1 3, by rw [← n4]; exact (nst_bd 27 (Nat.le_refl _) HGA.out).1 4, by rw [← n5]; exact (nst_bd 27 (Nat.le_refl _) HGA.out).1 5, by rw [← n6]; exact (nst_bd 27 (Nat.le_refl _) HGA.out).1 6⟩
      obtain ⟨bd1, bd2, bd3, bd4⟩ := hbd
      clear n3 n4 n5 n6 z0 z1 z2 hb2 HDay
      have hne1 : ¬ w1.heap.size = w2.heap.size := by omega
      have hne2 : ¬ w2.heap.size = w1.heap.size := by omega
      rcases HO.out with ⟨⟨T, p, rfl⟩, rfl⟩ | ⟨rfl, ho⟩
      · clear HInst HO
        go_wp2
        have HX : Hid (Row7 w1.heap.size w.heap.size s 27 w (w2.alloc (Obj.cells #[Value.int IntKind.i64 day, Value.int IntKind.i64 (((h * 60 + mi) * 60 + sc) * 1000000 + us)] 52))) := Lib.hid (HW2.out.below hA2 hR2 ((Below.refl _ _).alloc (Nat.le_refl _) _))
        have hR5 : w.heap.size < (w2.alloc (Obj.cells #[Value.int IntKind.i64 day, Value.int IntKind.i64 (((h * 60 + mi) * 60 + sc) * 1000000 + us)] 52)).heap.size := by simp only [World.size_alloc]; omega
        have e2 : (w2.alloc (Obj.cells #[Value.int IntKind.i64 day, Value.int IntKind.i64 (((h * 60 + mi) * 60 + sc) * 1000000 + us)] 52)).cell? ⟨2, 0, none⟩ = some (.iface 225 (.pointer (some (ad 2)))) := (HE.out.below HX.out.bel).1 2 (by decide)
        have hgl : 2 < w.heap.size := cell_lt (HE.out.1 2 (by decide))
        have y0 := HX.out.r0
        have y1 := HX.out.r1
        have z0 := HX.out.f0
        have z1 := HX.out.f1
        generalize w2.alloc (Obj.cells #[Value.int IntKind.i64 day, Value.int IntKind.i64 (((h * 60 + mi) * 60 + sc) * 1000000 + us)] 52) = W5 at *
        have hne : ¬ 2 = w.heap.size := by omega
        have hne' : ¬ w.heap.size = 2 := by omega
        have hnr : ¬ w.heap.size = W5.heap.size := by omega
        clear q3 q4 q5 q6
        go_region
        all_goals
          go_wp2
          obtain ⟨WF, hWF, v0, v1, v2, v3, hbw⟩ := HX.out.fault1 (Nat.le_refl _) hR5 (.int .i64 0) (.iface 225 (.pointer (some (ad 2))))
          rw [hWF]
          refine bodyPost_ret (v := .tuple #[.agg #[.int .i64 0, .int .i64 0], faultV W5.heap.size]) ?_ rfl ?_
          · simp [results, Tryd.results25, go_sem, v0, v1, faultV]
          · exact Or.inr ⟨rfl, W5.heap.size, by omega, rfl, v2, v3, hbw⟩
      · rcases ho with ⟨ho, rfl⟩ | ⟨ho, hp⟩
        · clear HInst HO
          unfold timeOk at ho
          by_cases t1 : 24 ≤ h
          · have d1 : decide ((h : Int) < 24) = false := by simp <;> omega
            have d1' : decide (h < 24) = false := by simp <;> omega
            clear ho t1
            go_wp2
            have HX : Hid (Row7 w1.heap.size w.heap.size s 27 w (w2.alloc (Obj.cells #[Value.int IntKind.i64 day, Value.int IntKind.i64 (((h * 60 + mi) * 60 + sc) * 1000000 + us)] 52))) := Lib.hid (HW2.out.below hA2 hR2 ((Below.refl _ _).alloc (Nat.le_refl _) _))
            have hR5 : w.heap.size < (w2.alloc (Obj.cells #[Value.int IntKind.i64 day, Value.int IntKind.i64 (((h * 60 + mi) * 60 + sc) * 1000000 + us)] 52)).heap.size := by simp only [World.size_alloc]; omega
            have e2 : (w2.alloc (Obj.cells #[Value.int IntKind.i64 day, Value.int IntKind.i64 (((h * 60 + mi) * 60 + sc) * 1000000 + us)] 52)).cell? ⟨2, 0, none⟩ = some (.iface 225 (.pointer (some (ad 2)))) := (HE.out.below HX.out.bel).1 2 (by decide)
            have hgl : 2 < w.heap.size := cell_lt (HE.out.1 2 (by decide))
            have y0 := HX.out.r0
            have y1 := HX.out.r1
            have z0 := HX.out.f0
            have z1 := HX.out.f1
            generalize w2.alloc (Obj.cells #[Value.int IntKind.i64 day, Value.int IntKind.i64 (((h * 60 + mi) * 60 + sc) * 1000000 + us)] 52) = W5 at *
            have hne : ¬ 2 = w.heap.size := by omega
            have hne' : ¬ w.heap.size = 2 := by omega
            have hnr : ¬ w.heap.size = W5.heap.size := by omega
            clear q3 q4 q5 q6
            go_region
            all_goals
              go_wp2
              obtain ⟨WF, hWF, v0, v1, v2, v3, hbw⟩ := HX.out.fault1 (Nat.le_refl _) hR5 (.int .i64 0) (.iface 225 (.pointer (some (ad 2))))
              rw [hWF]
              refine bodyPost_ret (v := .tuple #[.agg #[.int .i64 0, .int .i64 0], faultV W5.heap.size]) ?_ rfl ?_
              · simp [results, Tryd.results25, go_sem, v0, v1, faultV]
              · exact Or.inr ⟨rfl, W5.heap.size, by omega, rfl, v2, v3, hbw⟩
          have t1 : h < 24 := by omega
          by_cases t2 : 60 ≤ mi
          · have d1 : decide ((h : Int) < 24) = true := by simp <;> omega
            have d1' : decide (h < 24) = true := by simp <;> omega
            have d2 : decide ((mi : Int) < 60) = false := by simp <;> omega
            have d2' : decide (mi < 60) = false := by simp <;> omega
            clear ho t1 t2
            go_wp2
            have HX : Hid (Row7 w1.heap.size w.heap.size s 27 w (w2.alloc (Obj.cells #[Value.int IntKind.i64 day, Value.int IntKind.i64 (((h * 60 + mi) * 60 + sc) * 1000000 + us)] 52))) := Lib.hid (HW2.out.below hA2 hR2 ((Below.refl _ _).alloc (Nat.le_refl _) _))
            have hR5 : w.heap.size < (w2.alloc (Obj.cells #[Value.int IntKind.i64 day, Value.int IntKind.i64 (((h * 60 + mi) * 60 + sc) * 1000000 + us)] 52)).heap.size := by simp only [World.size_alloc]; omega
            have e2 : (w2.alloc (Obj.cells #[Value.int IntKind.i64 day, Value.int IntKind.i64 (((h * 60 + mi) * 60 + sc) * 1000000 + us)] 52)).cell? ⟨2, 0, none⟩ = some (.iface 225 (.pointer (some (ad 2)))) := (HE.out.below HX.out.bel).1 2 (by decide)
            have hgl : 2 < w.heap.size := cell_lt (HE.out.1 2 (by decide))
            have y0 := HX.out.r0
            have y1 := HX.out.r1
            have z0 := HX.out.f0
            have z1 := HX.out.f1
            generalize w2.alloc (Obj.cells #[Value.int IntKind.i64 day, Value.int IntKind.i64 (((h * 60 + mi) * 60 + sc) * 1000000 + us)] 52) = W5 at *
            have hne : ¬ 2 = w.heap.size := by omega
            have hne' : ¬ w.heap.size = 2 := by omega
            have hnr : ¬ w.heap.size = W5.heap.size := by omega
            clear q3 q4 q5 q6
            go_region
            all_goals
              go_wp2
              obtain ⟨WF, hWF, v0, v1, v2, v3, hbw⟩ := HX.out.fault1 (Nat.le_refl _) hR5 (.int .i64 0) (.iface 225 (.pointer (some (ad 2))))
              rw [hWF]
              refine bodyPost_ret (v := .tuple #[.agg #[.int .i64 0, .int .i64 0], faultV W5.heap.size]) ?_ rfl ?_
              · simp [results, Tryd.results25, go_sem, v0, v1, faultV]
              · exact Or.inr ⟨rfl, W5.heap.size, by omega, rfl, v2, v3, hbw⟩
          have t3 : 60 ≤ sc := by omega
          by_cases t4 : h = 23
          · have t5 : mi ≠ 59 := by omega
            have d1 : decide ((h : Int) < 24) = true := by simp <;> omega
            have d1' : decide (h < 24) = true := by simp <;> omega
            have d2 : decide ((mi : Int) < 60) = true := by simp <;> omega
            have d2' : decide (mi < 60) = true := by simp <;> omega
            have d3 : decide ((sc : Int) < 60) = false := by simp <;> omega
            have d3' : decide (sc < 60) = false := by simp <;> omega
            have d4 : ((h : Int) == 23) = true := by simp <;> omega
            have d5 : ((mi : Int) == 59) = false := by simp <;> omega
            clear ho t1 t2 t3 t4 t5
            go_wp2
            have HX : Hid (Row7 w1.heap.size w.heap.size s 27 w (w2.alloc (Obj.cells #[Value.int IntKind.i64 day, Value.int IntKind.i64 (((h * 60 + mi) * 60 + sc) * 1000000 + us)] 52))) := Lib.hid (HW2.out.below hA2 hR2 ((Below.refl _ _).alloc (Nat.le_refl _) _))
            have hR5 : w.heap.size < (w2.alloc (Obj.cells #[Value.int IntKind.i64 day, Value.int IntKind.i64 (((h * 60 + mi) * 60 + sc) * 1000000 + us)] 52)).heap.size := by simp only [World.size_alloc]; omega
            have e2 : (w2.alloc (Obj.cells #[Value.int IntKind.i64 day, Value.int IntKind.i64 (((h * 60 + mi) * 60 + sc) * 1000000 + us)] 52)).cell? ⟨2, 0, none⟩ = some (.iface 225 (.pointer (some (ad 2)))) := (HE.out.below HX.out.bel).1 2 (by decide)
            have hgl : 2 < w.heap.size := cell_lt (HE.out.1 2 (by decide))
            have y0 := HX.out.r0
            have y1 := HX.out.r1
            have z0 := HX.out.f0
            have z1 := HX.out.f1
            generalize w2.alloc (Obj.cells #[Value.int IntKind.i64 day, Value.int IntKind.i64 (((h * 60 + mi) * 60 + sc) * 1000000 + us)] 52) = W5 at *
            have hne : ¬ 2 = w.heap.size := by omega
            have hne' : ¬ w.heap.size = 2 := by omega
            have hnr : ¬ w.heap.size = W5.heap.size := by omega
            clear q3 q4 q5 q6
            go_region
            all_goals
              go_wp2
              obtain ⟨WF, hWF, v0, v1, v2, v3, hbw⟩ := HX.out.fault1 (Nat.le_refl _) hR5 (.int .i64 0) (.iface 225 (.pointer (some (ad 2))))
              rw [hWF]
              refine bodyPost_ret (v := .tuple #[.agg #[.int .i64 0, .int .i64 0], faultV W5.heap.size]) ?_ rfl ?_
              · simp [results, Tryd.results25, go_sem, v0, v1, faultV]
              · exact Or.inr ⟨rfl, W5.heap.size, by omega, rfl, v2, v3, hbw⟩
          · have d1 : decide ((h : Int) < 24) = true := by simp <;> omega
            have d1' : decide (h < 24) = true := by simp <;> omega
            have d2 : decide ((mi : Int) < 60) = true := by simp <;> omega
            have d2' : decide (mi < 60) = true := by simp <;> omega
            have d3 : decide ((sc : Int) < 60) = false := by simp <;> omega
            have d3' : decide (sc < 60) = false := by simp <;> omega
            have d4 : ((h : Int) == 23) = false := by simp <;> omega
            clear ho t1 t2 t3 t4
            go_wp2
            have HX : Hid (Row7 w1.heap.size w.heap.size s 27 w (w2.alloc (Obj.cells #[Value.int IntKind.i64 day, Value.int IntKind.i64 (((h * 60 + mi) * 60 + sc) * 1000000 + us)] 52))) := Lib.hid (HW2.out.below hA2 hR2 ((Below.refl _ _).alloc (Nat.le_refl _) _))
            have hR5 : w.heap.size < (w2.alloc (Obj.cells #[Value.int IntKind.i64 day, Value.int IntKind.i64 (((h * 60 + mi) * 60 + sc) * 1000000 + us)] 52)).heap.size := by simp only [World.size_alloc]; omega
            have e2 : (w2.alloc (Obj.cells #[Value.int IntKind.i64 day, Value.int IntKind.i64 (((h * 60 + mi) * 60 + sc) * 1000000 + us)] 52)).cell? ⟨2, 0, none⟩ = some (.iface 225 (.pointer (some (ad 2)))) := (HE.out.below HX.out.bel).1 2 (by decide)
            have hgl : 2 < w.heap.size := cell_lt (HE.out.1 2 (by decide))
            have y0 := HX.out.r0
            have y1 := HX.out.r1
            have z0 := HX.out.f0
            have z1 := HX.out.f1
            generalize w2.alloc (Obj.cells #[Value.int IntKind.i64 day, Value.int IntKind.i64 (((h * 60 + mi) * 60 + sc) * 1000000 + us)] 52) = W5 at *
            have hne : ¬ 2 = w.heap.size := by omega
            have hne' : ¬ w.heap.size = 2 := by omega
            have hnr : ¬ w.heap.size = W5.heap.size := by omega
            clear q3 q4 q5 q6
            go_region
            all_goals
              go_wp2
              obtain ⟨WF, hWF, v0, v1, v2, v3, hbw⟩ := HX.out.fault1 (Nat.le_refl _) hR5 (.int .i64 0) (.iface 225 (.pointer (some (ad 2))))
              rw [hWF]
              refine bodyPost_ret (v := .tuple #[.agg #[.int .i64 0, .int .i64 0], faultV W5.heap.size]) ?_ rfl ?_
              · simp [results, Tryd.results25, go_sem, v0, v1, faultV]
              · exact Or.inr ⟨rfl, W5.heap.size, by omega, rfl, v2, v3, hbw⟩
        · obtain ⟨t1, t2, t3⟩ := ho
          have HP := Lib.hid hp
          clear hp
          by_cases t5 : sc < 60
          · have d1 : decide ((h : Int) < 24) = true := by simp <;> omega
            have d1' : decide (h < 24) = true := by simp <;> omega
            have d2 : decide ((mi : Int) < 60) = true := by simp <;> omega
            have d2' : decide (mi < 60) = true := by simp <;> omega
            have d3 : decide ((sc : Int) < 60) = true := by simp <;> omega
            have d3' : decide (sc < 60) = true := by simp <;> omega
            clear t1 t2 t3 t5
            go_wp2_with fail
            have ea : ((((h : Int) * 60 + mi) * 60 + sc) * 1000000 + us) = micro := HM.out
            rw [ea]
            refine (HInst.out _ (HW2.out.bel.alloc HW2.out.bel.size _)).mono ?_; rintro e w3 ⟨rfl, hb3⟩
            have B3 : Hid (Below w2.heap.size w2 w3) := Lib.hid (below_step ((Below.refl _ _).alloc (Nat.le_refl _) _) hb3)
            have s0 : w3.cell? ⟨w2.heap.size, 0, none⟩ = some (.int .i64 day) := by rw [hb3.cell (p := ⟨w2.heap.size, 0, none⟩) (by simp)]; simp
            have s1 : w3.cell? ⟨w2.heap.size, 1, none⟩ = some (.int .i64 micro) := by rw [hb3.cell (p := ⟨w2.heap.size, 1, none⟩) (by simp)]; simp
            have hs3 : w2.heap.size < w3.heap.size := by have := hb3.size; simp at this; omega
            clear hb3 HInst ea
            rcases HP.out with ⟨⟨T, p, rfl⟩, rfl⟩ | ⟨rfl, rfl⟩
            · clear HP HO
              go_wp2
              have HX : Hid (Row7 w1.heap.size w.heap.size s 27 w (w3)) := Lib.hid (HW2.out.below hA2 hR2 B3.out)
              have hR5 : w.heap.size < (w3).heap.size := by have := B3.out.size; omega
              have e2 : (w3).cell? ⟨2, 0, none⟩ = some (.iface 225 (.pointer (some (ad 2)))) := (HE.out.below HX.out.bel).1 2 (by decide)
              have hgl : 2 < w.heap.size := cell_lt (HE.out.1 2 (by decide))
              have y0 := HX.out.r0
              have y1 := HX.out.r1
              have z0 := HX.out.f0
              have z1 := HX.out.f1
              obtain ⟨W5, rfl⟩ : ∃ W5, W5 = w3 := ⟨_, rfl⟩
              have hne : ¬ 2 = w.heap.size := by omega
              have hne' : ¬ w.heap.size = 2 := by omega
              have hnr : ¬ w.heap.size = W5.heap.size := by omega
              clear q3 q4 q5 q6
              go_region
              all_goals
                go_wp2
                obtain ⟨WF, hWF, v0, v1, v2, v3, hbw⟩ := HX.out.fault1 (Nat.le_refl _) hR5 (.int .i64 0) (.iface 225 (.pointer (some (ad 2))))
                rw [hWF]
                refine bodyPost_ret (v := .tuple #[.agg #[.int .i64 0, .int .i64 0], faultV W5.heap.size]) ?_ rfl ?_
                · simp [results, Tryd.results25, go_sem, v0, v1, faultV]
                · exact Or.inr ⟨rfl, W5.heap.size, by omega, rfl, v2, v3, hbw⟩
            · have HX : Hid (Row7 w1.heap.size w.heap.size s 27 w w3) := Lib.hid (HW2.out.below hA2 hR2 B3.out)
              have y0 := HX.out.r0
              have y1 := HX.out.r1
              have z0 := HX.out.f0
              have z1 := HX.out.f1
              clear q3 q4 q5 q6 HP HO
              go_wp2
              refine bodyPost_ret (v := .tuple #[.agg #[.int .i64 day, .int .i64 micro], .nilIface]) ?_ rfl ?_
              · have x0 : ((w3.setCell ⟨w.heap.size, 0, none⟩ (.int .i64 day)).setCell ⟨w.heap.size, 1, none⟩ (.int .i64 micro)).cell? ⟨w.heap.size, 0, none⟩ = some (.int .i64 day) := by
                  rw [World.cell?_setCell_other _ _ _ _ (by simp), World.cell?_setCell_same _ _ _ y0]
                have x1 : ((w3.setCell ⟨w.heap.size, 0, none⟩ (.int .i64 day)).setCell ⟨w.heap.size, 1, none⟩ (.int .i64 micro)).cell? ⟨w.heap.size, 1, none⟩ = some (.int .i64 micro) :=
                  World.cell?_setCell_same _ _ _ (by rw [World.cell?_setCell_other _ _ _ _ (by simp)]; exact y1)
                simp [results, Tryd.results25, go_sem, x0, x1]
              · exact Or.inl ⟨rfl, rfl, (HX.out.bel.setCell (Nat.le_refl _) _).setCell (Nat.le_refl _) _⟩


          · obtain ⟨t6, t7⟩ : h = 23 ∧ mi = 59 := by omega
            have d1 : decide ((h : Int) < 24) = true := by simp <;> omega
            have d1' : decide (h < 24) = true := by simp <;> omega
            have d2 : decide ((mi : Int) < 60) = true := by simp <;> omega
            have d2' : decide (mi < 60) = true := by simp <;> omega
            have d3 : decide ((sc : Int) < 60) = false := by simp <;> omega
            have d3' : decide (sc < 60) = false := by simp <;> omega
            have d4 : ((h : Int) == 23) = true := by simp <;> omega
            have d5 : ((mi : Int) == 59) = true := by simp <;> omega
            clear t1 t2 t3 t5 t6 t7
            go_wp2_with fail
            have ea : ((((h : Int) * 60 + mi) * 60 + sc) * 1000000 + us) = micro := HM.out
            rw [ea]
            refine (HInst.out _ (HW2.out.bel.alloc HW2.out.bel.size _)).mono ?_; rintro e w3 ⟨rfl, hb3⟩
            have B3 : Hid (Below w2.heap.size w2 w3) := Lib.hid (below_step ((Below.refl _ _).alloc (Nat.le_refl _) _) hb3)
            have s0 : w3.cell? ⟨w2.heap.size, 0, none⟩ = some (.int .i64 day) := by rw [hb3.cell (p := ⟨w2.heap.size, 0, none⟩) (by simp)]; simp
            have s1 : w3.cell? ⟨w2.heap.size, 1, none⟩ = some (.int .i64 micro) := by rw [hb3.cell (p := ⟨w2.heap.size, 1, none⟩) (by simp)]; simp
            have hs3 : w2.heap.size < w3.heap.size := by have := hb3.size; simp at this; omega
            clear hb3 HInst ea
            rcases HP.out with ⟨⟨T, p, rfl⟩, rfl⟩ | ⟨rfl, rfl⟩
            · clear HP HO
              go_wp2
              have HX : Hid (Row7 w1.heap.size w.heap.size s 27 w (w3)) := Lib.hid (HW2.out.below hA2 hR2 B3.out)
              have hR5 : w.heap.size < (w3).heap.size := by have := B3.out.size; omega
              have e2 : (w3).cell? ⟨2, 0, none⟩ = some (.iface 225 (.pointer (some (ad 2)))) := (HE.out.below HX.out.bel).1 2 (by decide)
              have hgl : 2 < w.heap.size := cell_lt (HE.out.1 2 (by decide))
              have y0 := HX.out.r0
              have y1 := HX.out.r1
              have z0 := HX.out.f0
              have z1 := HX.out.f1
              obtain ⟨W5, rfl⟩ : ∃ W5, W5 = w3 := ⟨_, rfl⟩
              have hne : ¬ 2 = w.heap.size := by omega
              have hne' : ¬ w.heap.size = 2 := by omega
              have hnr : ¬ w.heap.size = W5.heap.size := by omega
              clear q3 q4 q5 q6
              go_region
              all_goals
                go_wp2
                obtain ⟨WF, hWF, v0, v1, v2, v3, hbw⟩ := HX.out.fault1 (Nat.le_refl _) hR5 (.int .i64 0) (.iface 225 (.pointer (some (ad 2))))
                rw [hWF]
                refine bodyPost_ret (v := .tuple #[.agg #[.int .i64 0, .int .i64 0], faultV W5.heap.size]) ?_ rfl ?_
                · simp [results, Tryd.results25, go_sem, v0, v1, faultV]
                · exact Or.inr ⟨rfl, W5.heap.size, by omega, rfl, v2, v3, hbw⟩
            · have HX : Hid (Row7 w1.heap.size w.heap.size s 27 w w3) := Lib.hid (HW2.out.below hA2 hR2 B3.out)
              have y0 := HX.out.r0
              have y1 := HX.out.r1
              have z0 := HX.out.f0
              have z1 := HX.out.f1
              clear q3 q4 q5 q6 HP HO
              go_wp2
              refine bodyPost_ret (v := .tuple #[.agg #[.int .i64 day, .int .i64 micro], .nilIface]) ?_ rfl ?_
              · have x0 : ((w3.setCell ⟨w.heap.size, 0, none⟩ (.int .i64 day)).setCell ⟨w.heap.size, 1, none⟩ (.int .i64 micro)).cell? ⟨w.heap.size, 0, none⟩ = some (.int .i64 day) := by
                  rw [World.cell?_setCell_other _ _ _ _ (by simp), World.cell?_setCell_same _ _ _ y0]
                have x1 : ((w3.setCell ⟨w.heap.size, 0, none⟩ (.int .i64 day)).setCell ⟨w.heap.size, 1, none⟩ (.int .i64 micro)).cell? ⟨w.heap.size, 1, none⟩ = some (.int .i64 micro) :=
                  World.cell?_setCell_same _ _ _ (by rw [World.cell?_setCell_other _ _ _ _ (by simp)]; exact y1)
                simp [results, Tryd.results25, go_sem, x0, x1]
              · exact Or.inl ⟨rfl, rfl, (HX.out.bel.setCell (Nat.le_refl _) _).setCell (Nat.le_refl _) _⟩


    have hi27 : i < 27 := by omega
    have HG : Hid (∀ j, j < i → goodAt s j) := Lib.hid (fun j hj => HGA.out j (by omega))
    have HG1 : Hid (goodAt s i) := Lib.hid (HGA.out i hi27)
    have cl : i < s.size := HG1.out.1
    have hix := fun W => fp_at i hi27 W
    have hsep := sep_le i hi27
    have hz := HW.out.num (sep i) (by omega)
    have hzf := HW.out.free (sep i)
    have hn := (nst_bd i hi HG.out).1 (sep i)
    have hub : s[i].toNat < 256 := s[i].toNat_lt
    have hbt := bt_in cl
    have b1 : decide ((s.size : Int) ≤ (i : Int)) = false := by simp; omega
    have b1' : decide (s.size ≤ i) = false := by simp; omega
    cases hdg : digF i with
    | true =>
      have hf : fpF i = 48 := by unfold fpF; rw [hdg]; rfl
      rw [hf] at hix
      unfold formP at hix
      have q1 : ((48 : Int) != 48) = false := by decide
      have q2 : ((48 : Int) == 48) = true := by decide
      have c1 : 48 ≤ s[i].toNat ∧ s[i].toNat ≤ 57 := by
        rcases HG1.out.2 with ⟨_, g2⟩ | ⟨g1, _⟩
        · rw [hbt] at g2; exact g2
        · rw [hdg] at g1; cases g1
      have HS : Hid (sep (i + 1) = sep i) := Lib.hid (sep_d hdg)
      have HY : Hid (Row7 w1.heap.size w.heap.size s (i + 1) w (wr.setCell ⟨w1.heap.size, sep i, none⟩ (.int .i64 (((nst s i (sep i) : Nat) : Int) * 10 + ((s[i].toNat : Int) - 48))))) := Lib.hid (HW.out.digS (by omega) (by omega) hdg hsep (by rw [hbt]; omega))
      obtain ⟨c11, c12⟩ := c1
      clear hf hbt hdg HG HG1
      generalize nst s i (sep i) = N at *
      generalize sep i = K at *
      have b2 : decide ((s[i].toNat : Int) < 48) = false := by simp; omega
      have b2' : decide (s[i].toNat < 48) = false := by simp; omega
      have b3 : decide ((57 : Int) < (s[i].toNat : Int)) = false := by simp; omega
      have b3' : decide (57 < s[i].toNat) = false := by simp; omega
      go_wp2
      go_region
      all_goals go_wp2
      all_goals go_region
      all_goals
        go_wp2
        go_roundw
        case rel => exact ⟨i + 1, by omega, by rw [HS.out], by go_num, Lib.hid (HY.out.drew.drew)⟩
        case measure => simp [intOf]; omega
    | false =>
      obtain ⟨g1, g2⟩ := sigF_ne i
      have hf : fpF i = sigF i := by unfold fpF; rw [hdg]; rfl
      rw [hf] at hix
      unfold formP at hix
      have c1 : s[i].toNat = sigF i := by
        rcases HG1.out.2 with ⟨g1, _⟩ | ⟨_, g2⟩
        · rw [hdg] at g1; cases g1
        · rw [← hbt]; exact g2
      have HS : Hid (sep (i + 1) = sep i + 1) := Lib.hid (sep_s hdg)
      have HY : Hid (Row7 w1.heap.size w.heap.size s (i + 1) w wr) := Lib.hid (HW.out.sepS hdg)
      clear hf hbt hdg HG HG1 hz hzf hn
      generalize sep i = K at *
      generalize sigF i = C at *
      have q1 : ((C : Int) != 48) = true := by simp; omega
      have q2 : ((C : Int) == 48) = false := by simp; omega
      have q3 : ((s[i].toNat : Int) != (C : Int)) = false := by simp; omega
      go_wp2
      go_region
      all_goals
        go_wp2
        go_roundw
        case rel => exact ⟨i + 1, by omega, by rw [HS.out]; go_num, by go_num, Lib.hid HY.out.drew⟩
        case measure => simp [intOf]; omega
end Go.Proofs.YtjdjncfpcbeedaaDoor
