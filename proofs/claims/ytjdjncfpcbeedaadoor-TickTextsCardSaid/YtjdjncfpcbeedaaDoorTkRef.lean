/- ReadStamp of package meridianref1: its walk. -/
import Derived.Test.YtjdjncfpcbeedaaDoorTkReadF
import Derived.Test.YtjdjncfpcbeedaaDoorInts
namespace Go.Proofs.YtjdjncfpcbeedaaDoor
open Go.RowKit

def formR : ByteArray := { data := #[100, 100, 100, 100, 45, 100, 100, 45, 100, 100, 84, 100, 100, 58, 100, 100, 58, 100, 100, 46, 100, 100, 100, 100, 100, 100, 90] }
def frF (i : Nat) : Nat := if digF i then 100 else sigF i
theorem fr_at (i : Nat) (hi : i < 27) (W : World) : (Instr.index 9 (.string formR) (.int .i64 (i : Int))).run Tryd.prog W = .ok (.int .u8 (frF i : Nat)) W := by
  have hz : formR.size = 27 := rfl
  rw [run_index_string W 9 formR .i64 i Tryd.underlying9, dif_pos (by omega)]
  have h : ∀ x : Fin 27, bt formR x.1 = frF x.1 := by decide +kernel
  have e : (formR[((i : Nat) : Int).toNat]'(by rw [hz]; omega)).toNat = frF i := by
    rw [← bt_in (s := formR) (by rw [hz]; omega), Int.toNat_natCast]
    exact h ⟨i, hi⟩
  rw [e]
theorem sigF_ne2 (i : Nat) : sigF i ≠ 100 ∧ sigF i < 256 := by
  unfold sigF
  repeat' split
  all_goals decide
theorem isDigit_any (c : Nat) (W : World) : Calls Tryd.prog 58 #[.int .u8 c] W fun e w' => e = .returned (.bool (decide (48 ≤ c) && decide (c ≤ 57))) ∧ W = w' := by
  by_cases h1 : 48 ≤ c
  · by_cases h2 : c ≤ 57
    · have e : (decide (48 ≤ c) && decide (c ≤ 57)) = true := by simp [h1, h2]
      rw [e]
      go_enter Tryd.func58, Tryd.ntmps58
      go_wp2
      go_ret
      exact ⟨by simp [h1, h2] <;> omega, rfl⟩
    · have e : (decide (48 ≤ c) && decide (c ≤ 57)) = false := by simp [h2]
      rw [e]
      go_enter Tryd.func58, Tryd.ntmps58
      go_wp2
      go_ret
      exact ⟨by simp [h1, h2] <;> omega, rfl⟩
  · have e : (decide (48 ≤ c) && decide (c ≤ 57)) = false := by simp [h1]
    rw [e]
    go_enter Tryd.func58, Tryd.ntmps58
    go_wp2
    go_ret
    exact ⟨by simp [h1] <;> omega, rfl⟩
/-- The numbers that are done ahead of place i. -/
def finL (s : ByteArray) (i : Nat) : List Int := (List.range (sep i)).map (fun j => ((nst s i j : Nat) : Int))
theorem finL_len (s : ByteArray) (i : Nat) : (finL s i).length = sep i := by simp [finL]
theorem finL_d {s : ByteArray} {i : Nat} (h : digF i = true) : finL s (i + 1) = finL s i := by
  unfold finL
  rw [sep_d h]
  refine List.map_congr_left (fun j hj => ?_)
  have := List.mem_range.1 hj
  rw [nst_d h, upN_ne _ _ (by omega)]
theorem finL_s {s : ByteArray} {i : Nat} (h : digF i = false) : finL s (i + 1) = finL s i ++ [((nst s i (sep i) : Nat) : Int)] := by
  unfold finL
  rw [sep_s h, List.range_succ, List.map_append, nst_s h]
  rfl
theorem finL_get (s : ByteArray) {j : Nat} (h : j < 7) : (finL s 27).getD j 0 = ((nst s 27 j : Nat) : Int) := by
  unfold finL
  rw [sep_27, List.getD_eq_getElem?_getD, List.getElem?_map, List.getElem?_range h]
  rfl
/-- What a reading leaves: the stamp, and the fault. -/
noncomputable def rdOut (s : ByteArray) (ok : Bool) (day micro : Int) : Int × Int × Int × Int :=
  match badF s 27 0 with
  | some p => (0, 0, 1, ((min p s.size : Nat) : Int))
  | none => if 27 < s.size then (0, 0, 1, 27) else if ok then (day, micro, 0, -1) else (0, 0, 3, 0)
theorem rdOut_bad {s : ByteArray} {p : Nat} (h : badF s 27 0 = some p) (ok : Bool) (day micro : Int) : rdOut s ok day micro = (0, 0, 1, ((min p s.size : Nat) : Int)) := by unfold rdOut; rw [h]
theorem rdOut_long {s : ByteArray} (h : badF s 27 0 = none) (hl : 27 < s.size) (ok : Bool) (day micro : Int) : rdOut s ok day micro = (0, 0, 1, 27) := by
  unfold rdOut; rw [h]; exact if_pos hl
theorem rdOut_ok {s : ByteArray} (h : badF s 27 0 = none) (hl : ¬ 27 < s.size) (day micro : Int) : rdOut s true day micro = (day, micro, 0, -1) := by
  unfold rdOut; rw [h]; exact if_neg hl
theorem rdOut_no {s : ByteArray} (h : badF s 27 0 = none) (hl : ¬ 27 < s.size) (day micro : Int) : rdOut s false day micro = (0, 0, 3, 0) := by
  unfold rdOut; rw [h]; exact if_neg hl
theorem own_drewN {w : World} {base e size k : Nat} {v : Value} {xs : List Value} (h : w.ownsRow base e size v k xs) (n : Nat) : (w.drewN n).ownsRow base e size v k xs := by
  unfold World.ownsRow at *
  simpa using h
theorem new_cellD (wr : World) (n : Nat) (x : Value) (T : TypeId) : ((wr.drewN n).alloc (.cells #[x] T)).cell? ((⟨wr.heap.size, 0, none⟩ : Addr).add 0) = some x := by
  have e : (wr.drewN n).heap.size = wr.heap.size := by simp
  generalize wr.drewN n = W at *
  rw [← e]
  simp [Addr.add]
structure Row4 (R : Nat) (W : World) : Prop where
  a0 : W.cell? ⟨R, 0, none⟩ = some (.int .i64 0)
  a1 : W.cell? ⟨R, 1, none⟩ = some (.int .i64 0)
  b0 : W.cell? ⟨R + 1, 0, none⟩ = some (.int .i64 0)
  b1 : W.cell? ⟨R + 1, 1, none⟩ = some (.int .i64 0)
  f0 : W.frozen? ⟨R, 0, none⟩ = false
  f1 : W.frozen? ⟨R, 1, none⟩ = false
  g0 : W.frozen? ⟨R + 1, 0, none⟩ = false
  g1 : W.frozen? ⟨R + 1, 1, none⟩ = false
  sz : R + 1 < W.heap.size
theorem Row4.below {R : Nat} {W W' : World} (h : Row4 R W) (hb : Below W.heap.size W W') : Row4 R W' := by
  have h1 := h.sz
  have h0 : R < W.heap.size := by omega
  have hs := hb.size
  exact ⟨by rw [hb.cell (p := ⟨R, 0, none⟩) h0]; exact h.a0, by rw [hb.cell (p := ⟨R, 1, none⟩) h0]; exact h.a1, by rw [hb.cell (p := ⟨R + 1, 0, none⟩) h1]; exact h.b0, by rw [hb.cell (p := ⟨R + 1, 1, none⟩) h1]; exact h.b1,
    by rw [hb.frozen (p := ⟨R, 0, none⟩) h0]; exact h.f0, by rw [hb.frozen (p := ⟨R, 1, none⟩) h0]; exact h.f1, by rw [hb.frozen (p := ⟨R + 1, 0, none⟩) h1]; exact h.g0, by rw [hb.frozen (p := ⟨R + 1, 1, none⟩) h1]; exact h.g1, by omega⟩
set_option maxRecDepth 20000 in
set_option maxHeartbeats 8000000 in
theorem refRead_no (V : Value) (s : ByteArray) (hs : s.size ≤ 1000000) (w : World) (day micro e0 : Int) (ok : Bool) (h mi sc us : Nat)
    (h3 : nst s 27 3 = h) (h4 : nst s 27 4 = mi) (h5 : nst s 27 5 = sc) (h6 : nst s 27 6 = us) (hmc : (((h : Int) * 60 + mi) * 60 + sc) * 1000000 + us = micro)
    (HV : Hid (∀ o1 o2, Calls Tryd.prog 57 #[V] ((w.alloc o1).alloc o2) fun e w' => e = .returned (.int .i64 0) ∧ (w.alloc o1).alloc o2 = w'))
    (HDay : Hid (∀ W, Calls Tryd.prog 59 #[.int .i64 (nst s 27 0 : Nat), .int .i64 (nst s 27 1 : Nat), .int .i64 (nst s 27 2 : Nat)] W fun e w' => e = .returned (.tuple #[.int .i64 day, .int .i64 e0]) ∧ Below W.heap.size W w'))
    (hO : badF s 27 0 = none → ¬ 27 < s.size → ok = false ∧ (0 < e0 ∨ (e0 = 0 ∧ ¬ timeOk h mi sc))) :
    Calls Tryd.prog 26 #[V, .string s] w fun e w' => e = .returned (.tuple #[.agg #[.int .i64 (rdOut s ok day micro).1, .int .i64 (rdOut s ok day micro).2.1], .agg #[.int .i64 (rdOut s ok day micro).2.2.1, .int .i64 (rdOut s ok day micro).2.2.2]]) ∧ Below w.heap.size w w' := by
  obtain ⟨j0, ji, jz0, jz1, jz2⟩ := info_parts info_int'
  have HO := Lib.hid hO
  have HN : Hid (nst s 27 3 = h ∧ nst s 27 4 = mi ∧ nst s 27 5 = sc ∧ nst s 27 6 = us) := Lib.hid ⟨h3, h4, h5, h6⟩
  have HM := Lib.hid hmc
  have HRb : Hid (∀ p, badF s 27 0 = some p → rdOut s ok day micro = (0, 0, 1, ((min p s.size : Nat) : Int))) := Lib.hid (fun p h => rdOut_bad h ok day micro)
  have HRl : Hid (badF s 27 0 = none → 27 < s.size → rdOut s ok day micro = (0, 0, 1, 27)) := Lib.hid (fun h1 h2 => rdOut_long h1 h2 ok day micro)
  have HRo : Hid (badF s 27 0 = none → ¬ 27 < s.size → ok = true → rdOut s ok day micro = (day, micro, 0, -1)) := Lib.hid (fun h1 h2 h3 => by rw [h3]; exact rdOut_ok h1 h2 day micro)
  have HRn : Hid (badF s 27 0 = none → ¬ 27 < s.size → ok = false → rdOut s ok day micro = (0, 0, 3, 0)) := Lib.hid (fun h1 h2 h3 => by rw [h3]; exact rdOut_no h1 h2 day micro)
  clear hO h3 h4 h5 h6 hmc
  generalize rdOut s ok day micro = out at *
  obtain ⟨q1, q2, q3, q4⟩ := out
  go_enter Tryd.func26, Tryd.ntmps26
  go_wp2_with fail
  refine (HV.out _ _).mono ?_; rintro e w1 ⟨rfl, rfl⟩
  clear HV
  have HW2 : Hid (∀ o1 o2, o1 = Obj.cells #[.int .i64 0, .int .i64 0] 52 → o2 = Obj.cells #[.int .i64 0, .int .i64 0] 60 → Row4 w.heap.size ((w.alloc o1).alloc o2) ∧ Below w.heap.size w ((w.alloc o1).alloc o2)) := Lib.hid (by
    rintro _ _ rfl rfl
    refine ⟨⟨by simp, by simp, by simp, by simp, by simp, by simp, by simp, by simp, by simp⟩, by go_grown⟩)
  go_wp2
  obtain ⟨hr4, hb2⟩ := HW2.out _ _ rfl rfl
  generalize (w.alloc _).alloc _ = W2 at *
  have HI := Lib.hid hr4
  have HB2 := Lib.hid hb2
  have hs2 := hr4.sz
  clear hr4 hb2 HW2
  have HG0 : Hid (Gath W2 (.slice none 0 0) (finL s 0) W2) := Lib.hid ⟨World.ownsRow_nil _ _ _ _, Below.refl _ _⟩
  go_wp2
  go_loopw [8, 9, 10] (fun v m t wr => ∃ i : Nat, i ≤ 27 ∧ m = .int .i64 (nst s i (sep i) : Nat) ∧ t = .int .i64 i ∧ Hid (∀ j, j < i → goodAt s j) ∧ Hid (badF s (27 - i) i = badF s 27 0) ∧ Hid (Gath W2 v (finL s i) wr)) (fun _ _ t _ => 27 - (intOf t).toNat)
  case atStart => exact ⟨0, by omega, rfl, rfl, Lib.hid (fun j hj => by omega), Lib.hid rfl, HG0⟩
  case round =>
    clear HG0
    obtain ⟨i, hi, rfl, rfl, HG, HP, HA⟩ := hrel
    by_cases c27 : i = 27
    · subst c27
      have hbad : Hid (badF s 27 0 = none) := Lib.hid (by rw [← HP.out]; rfl)
      have hr4 := HI.out.below HA.out.2
      have y0 := hr4.a0
      have y1 := hr4.a1
      have y2 := hr4.b0
      have y3 := hr4.b1
      have z0 := hr4.f0
      have z1 := hr4.f1
      have z2 := hr4.g0
      have z3 := hr4.g1
      have hne : ¬ w.heap.size = w.heap.size + 1 := by omega
      have hne' : ¬ w.heap.size + 1 = w.heap.size := by omega
      have HBw := Lib.hid (below_step HB2.out HA.out.2)
      by_cases hl : 27 < s.size
      · have HE := Lib.hid (HRl.out hbad.out hl)
        clear HG HP HA hr4
        go_wp2
        obtain ⟨rfl, rfl, rfl, rfl⟩ : q1 = 0 ∧ q2 = 0 ∧ q3 = 1 ∧ q4 = 27 := by have := HE.out; simp at this; exact this
        refine bodyPost_ret (v := .tuple #[.agg #[.int .i64 0, .int .i64 0], .agg #[.int .i64 1, .int .i64 27]]) ?_ rfl ?_
        · simp [results, Tryd.results26, go_sem, y0, y1, y2, y3]
        · exact ⟨rfl, (((HBw.out.setCell (by simp) _).setCell (by simp) _).setCell (by simp) _).setCell (by simp) _⟩
      · have HEo := Lib.hid (HRo.out hbad.out hl)
        have HEn := Lib.hid (HRn.out hbad.out hl)
        obtain ⟨n3, n4, n5, n6⟩ := HN.out
        have nb := (nst_bd 27 (Nat.le_refl _) HG.out).1
        have hlen : (finL s 27).length = 7 := by rw [finL_len]; rfl
        obtain ⟨ga, gc, rfl, hrow⟩ := HA.out.row
        rw [hlen] at hrow
        obtain ⟨gb, go, rfl, hgl, _⟩ := hrow.at (show 0 < 7 by decide)
        have hcell : ∀ j, j < 7 → wr.cell? ⟨gb, go + j, none⟩ = some (.int .i64 (nst s 27 j : Nat)) := fun j hj => by
          obtain ⟨b', o', e', _, hc⟩ := hrow.at hj
          cases e'
          rw [finL_get s hj] at hc
          exact hc
        have n0c := hcell 0 (by decide)
        rw [Nat.add_zero] at n0c
        have n1c := hcell 1 (by decide)
        have n2c := hcell 2 (by decide)
        have n3c := hcell 3 (by decide)
        have n4c := hcell 4 (by decide)
        have n5c := hcell 5 (by decide)
        have n6c := hcell 6 (by decide)
        rw [n3] at n3c
        rw [n4] at n4c
        rw [n5] at n5c
        rw [n6] at n6c
        rw [hlen]
        have hbd : h < 1000000 ∧ mi < 1000000 ∧ sc < 1000000 ∧ us < 1000000 := ⟨by rw [← n3]; exact nb 3, by rw [← n4]; exact nb 4, by rw [← n5]; exact nb 5, by rw [← n6]; exact nb 6⟩
        obtain ⟨bd1, bd2, bd3, bd4⟩ := hbd
        have HR4 := Lib.hid hr4
        clear HG HP HA hr4 hrow hcell n3 n4 n5 n6 nb y0 y1 y2 y3 z0 z1 z2 z3
        generalize nst s 27 0 = a0 at *
        generalize nst s 27 1 = a1 at *
        generalize nst s 27 2 = a2 at *
        go_wp2
        have HB5 : Hid (∀ o, Below wr.heap.size wr (wr.alloc o)) := Lib.hid (fun o => (Below.refl _ _).alloc (Nat.le_refl _) _)
        have HT5 : Hid ((wr.alloc (Obj.cells #[Value.int IntKind.i64 3, Value.int IntKind.i64 0] 60)).cell? ⟨wr.heap.size, 0, none⟩ = some (.int .i64 3) ∧ (wr.alloc (Obj.cells #[Value.int IntKind.i64 3, Value.int IntKind.i64 0] 60)).cell? ⟨wr.heap.size, 1, none⟩ = some (.int .i64 0) ∧ wr.heap.size < (wr.alloc (Obj.cells #[Value.int IntKind.i64 3, Value.int IntKind.i64 0] 60)).heap.size) := Lib.hid ⟨by simp, by simp, by simp⟩
        have hgw : gb < wr.heap.size := hgl
        have m0 := HB5.out (Obj.cells #[Value.int IntKind.i64 3, Value.int IntKind.i64 0] 60)
        generalize wr.alloc (Obj.cells #[Value.int IntKind.i64 3, Value.int IntKind.i64 0] 60) = W5 at *
        clear HB5
        rw [← m0.cell (p := ⟨gb, go, none⟩) hgw] at n0c
        rw [← m0.cell (p := ⟨gb, go + 1, none⟩) hgw] at n1c
        rw [← m0.cell (p := ⟨gb, go + 2, none⟩) hgw] at n2c
        rw [← m0.cell (p := ⟨gb, go + 3, none⟩) hgw] at n3c
        rw [← m0.cell (p := ⟨gb, go + 4, none⟩) hgw] at n4c
        rw [← m0.cell (p := ⟨gb, go + 5, none⟩) hgw] at n5c
        rw [← m0.cell (p := ⟨gb, go + 6, none⟩) hgw] at n6c
        obtain ⟨t0, t1, hs5⟩ := HT5.out
        have HR5 := Lib.hid (HR4.out.below m0)
        have HBw5 := Lib.hid (below_step HBw.out m0)
        have hg5 : gb < W5.heap.size := by omega
        have hsr0 : w.heap.size + 1 < wr.heap.size := HR4.out.sz
        clear HT5 m0 HR4 HBw
        have HC : Hid (∀ W', Below W5.heap.size W5 W' → W'.cell? ⟨gb, go, none⟩ = some (.int .i64 a0) ∧ W'.cell? ⟨gb, go + 1, none⟩ = some (.int .i64 a1) ∧ W'.cell? ⟨gb, go + 2, none⟩ = some (.int .i64 a2) ∧ W'.cell? ⟨gb, go + 3, none⟩ = some (.int .i64 h) ∧ W'.cell? ⟨gb, go + 4, none⟩ = some (.int .i64 mi) ∧ W'.cell? ⟨gb, go + 5, none⟩ = some (.int .i64 sc) ∧ W'.cell? ⟨gb, go + 6, none⟩ = some (.int .i64 us)) := Lib.hid (fun W' hb => ⟨by rw [hb.cell (p := ⟨gb, go, none⟩) hg5]; exact n0c, by rw [hb.cell (p := ⟨gb, go + 1, none⟩) hg5]; exact n1c, by rw [hb.cell (p := ⟨gb, go + 2, none⟩) hg5]; exact n2c, by rw [hb.cell (p := ⟨gb, go + 3, none⟩) hg5]; exact n3c, by rw [hb.cell (p := ⟨gb, go + 4, none⟩) hg5]; exact n4c, by rw [hb.cell (p := ⟨gb, go + 5, none⟩) hg5]; exact n5c, by rw [hb.cell (p := ⟨gb, go + 6, none⟩) hg5]; exact n6c⟩)
        go_region_held3 (fun w' => w'.cell? ⟨gb, go, none⟩ = some (.int .i64 a0) ∧ w'.cell? ⟨gb, go + 1, none⟩ = some (.int .i64 a1) ∧ w'.cell? ⟨gb, go + 2, none⟩ = some (.int .i64 a2) ∧ w'.cell? ⟨gb, go + 3, none⟩ = some (.int .i64 h) ∧ w'.cell? ⟨gb, go + 4, none⟩ = some (.int .i64 mi) ∧ w'.cell? ⟨gb, go + 5, none⟩ = some (.int .i64 sc) ∧ w'.cell? ⟨gb, go + 6, none⟩ = some (.int .i64 us))
          (first | go_keep | (exact HC.out _ (below_step (below_drewN (Below.refl _ _) 1) hb3)))
          (first | (go_at_call 59; refine (HDay.out _).mono ?_; rintro e w3 ⟨rfl, hb3⟩))
        have hb53 : Below W5.heap.size W5 w3 := below_step (below_drewN (Below.refl _ _) 1) hb3
        obtain ⟨_, _, _, m3, m4, m5, m6⟩ := HC.out w3 hb53
        have HR3 := Lib.hid (HR5.out.below hb53)
        have HBw3 := Lib.hid (below_step HBw5.out hb53)
        have u0 : w3.cell? ⟨wr.heap.size, 0, none⟩ = some (.int .i64 3) := by rw [hb53.cell (p := ⟨wr.heap.size, 0, none⟩) hs5]; exact t0
        have u1 : w3.cell? ⟨wr.heap.size, 1, none⟩ = some (.int .i64 0) := by rw [hb53.cell (p := ⟨wr.heap.size, 1, none⟩) hs5]; exact t1
        have hs3 := hb53.size
        have hsr : w.heap.size + 1 < wr.heap.size := hsr0
        clear hb3 hb53 n0c n1c n2c n3c n4c n5c n6c t0 t1 HDay HR5 HBw5
        obtain ⟨rfl, ho⟩ := HO.out hbad.out hl
        rcases ho with he0 | ⟨rfl, ho⟩
        · clear HO
          go_wp2
          obtain ⟨rfl, rfl, rfl, rfl⟩ : q1 = 0 ∧ q2 = 0 ∧ q3 = 3 ∧ q4 = 0 := by have := HEn.out (by simp); simp at this; exact this
          have y0 := HR3.out.a0
          have y1 := HR3.out.a1
          have y2 := HR3.out.b0
          have y3 := HR3.out.b1
          have z0 := HR3.out.f0
          have z1 := HR3.out.f1
          have z2 := HR3.out.g0
          have z3 := HR3.out.g1
          have hd1 : ¬ w.heap.size = wr.heap.size := by omega
          have hd2 : ¬ w.heap.size + 1 = wr.heap.size := by omega
          clear HEo HEn HC
          go_region
          all_goals
            go_wp2
            refine bodyPost_ret (v := .tuple #[.agg #[.int .i64 0, .int .i64 0], .agg #[.int .i64 3, .int .i64 0]]) ?_ rfl ?_
            · simp [results, Tryd.results26, go_sem, y0, y1, y2, y3]
            · exact ⟨rfl, by repeat' first | exact HBw3.out | apply Below.drew | (refine Below.setCell ?_ (by simp) _)⟩
        · clear HO
          unfold timeOk at ho
          by_cases t1 : 23 < h
          · have d1 : decide (23 < (h : Int)) = true := by simp <;> omega
            have d1' : decide (23 < h) = true := by simp <;> omega
            clear ho
            go_wp2
            obtain ⟨rfl, rfl, rfl, rfl⟩ : q1 = 0 ∧ q2 = 0 ∧ q3 = 3 ∧ q4 = 0 := by have := HEn.out (by simp); simp at this; exact this
            have y0 := HR3.out.a0
            have y1 := HR3.out.a1
            have y2 := HR3.out.b0
            have y3 := HR3.out.b1
            have z0 := HR3.out.f0
            have z1 := HR3.out.f1
            have z2 := HR3.out.g0
            have z3 := HR3.out.g1
            have hd1 : ¬ w.heap.size = wr.heap.size := by omega
            have hd2 : ¬ w.heap.size + 1 = wr.heap.size := by omega
            clear HEo HEn HC
            go_region
            all_goals
              go_wp2
              refine bodyPost_ret (v := .tuple #[.agg #[.int .i64 0, .int .i64 0], .agg #[.int .i64 3, .int .i64 0]]) ?_ rfl ?_
              · simp [results, Tryd.results26, go_sem, y0, y1, y2, y3]
              · exact ⟨rfl, by repeat' first | exact HBw3.out | apply Below.drew | (refine Below.setCell ?_ (by simp) _)⟩
          have d1 : decide (23 < (h : Int)) = false := by simp <;> omega
          have d1' : decide (23 < h) = false := by simp <;> omega
          by_cases t2 : 59 < mi
          · have d2 : decide (59 < (mi : Int)) = true := by simp <;> omega
            have d2' : decide (59 < mi) = true := by simp <;> omega
            clear ho
            go_wp2
            obtain ⟨rfl, rfl, rfl, rfl⟩ : q1 = 0 ∧ q2 = 0 ∧ q3 = 3 ∧ q4 = 0 := by have := HEn.out (by simp); simp at this; exact this
            have y0 := HR3.out.a0
            have y1 := HR3.out.a1
            have y2 := HR3.out.b0
            have y3 := HR3.out.b1
            have z0 := HR3.out.f0
            have z1 := HR3.out.f1
            have z2 := HR3.out.g0
            have z3 := HR3.out.g1
            have hd1 : ¬ w.heap.size = wr.heap.size := by omega
            have hd2 : ¬ w.heap.size + 1 = wr.heap.size := by omega
            clear HEo HEn HC
            go_region
            all_goals
              go_wp2
              refine bodyPost_ret (v := .tuple #[.agg #[.int .i64 0, .int .i64 0], .agg #[.int .i64 3, .int .i64 0]]) ?_ rfl ?_
              · simp [results, Tryd.results26, go_sem, y0, y1, y2, y3]
              · exact ⟨rfl, by repeat' first | exact HBw3.out | apply Below.drew | (refine Below.setCell ?_ (by simp) _)⟩
          have d2 : decide (59 < (mi : Int)) = false := by simp <;> omega
          have d2' : decide (59 < mi) = false := by simp <;> omega
          have t3 : 59 < sc := by omega
          have d3 : decide (59 < (sc : Int)) = true := by simp <;> omega
          have d3' : decide (59 < sc) = true := by simp <;> omega
          by_cases t4 : h = 23
          · have t5 : mi ≠ 59 := by omega
            have d4 : ((h : Int) == 23) = true := by simp <;> omega
            have d5 : ((mi : Int) == 59) = false := by simp <;> omega
            clear ho t1 t2 t3 t4 t5
            go_wp2
            obtain ⟨rfl, rfl, rfl, rfl⟩ : q1 = 0 ∧ q2 = 0 ∧ q3 = 3 ∧ q4 = 0 := by have := HEn.out (by simp); simp at this; exact this
            have y0 := HR3.out.a0
            have y1 := HR3.out.a1
            have y2 := HR3.out.b0
            have y3 := HR3.out.b1
            have z0 := HR3.out.f0
            have z1 := HR3.out.f1
            have z2 := HR3.out.g0
            have z3 := HR3.out.g1
            have hd1 : ¬ w.heap.size = wr.heap.size := by omega
            have hd2 : ¬ w.heap.size + 1 = wr.heap.size := by omega
            clear HEo HEn HC
            go_region
            all_goals
              go_wp2
              refine bodyPost_ret (v := .tuple #[.agg #[.int .i64 0, .int .i64 0], .agg #[.int .i64 3, .int .i64 0]]) ?_ rfl ?_
              · simp [results, Tryd.results26, go_sem, y0, y1, y2, y3]
              · exact ⟨rfl, by repeat' first | exact HBw3.out | apply Below.drew | (refine Below.setCell ?_ (by simp) _)⟩
          · have d4 : ((h : Int) == 23) = false := by simp <;> omega
            clear ho t1 t2 t3 t4
            go_wp2
            obtain ⟨rfl, rfl, rfl, rfl⟩ : q1 = 0 ∧ q2 = 0 ∧ q3 = 3 ∧ q4 = 0 := by have := HEn.out (by simp); simp at this; exact this
            have y0 := HR3.out.a0
            have y1 := HR3.out.a1
            have y2 := HR3.out.b0
            have y3 := HR3.out.b1
            have z0 := HR3.out.f0
            have z1 := HR3.out.f1
            have z2 := HR3.out.g0
            have z3 := HR3.out.g1
            have hd1 : ¬ w.heap.size = wr.heap.size := by omega
            have hd2 : ¬ w.heap.size + 1 = wr.heap.size := by omega
            clear HEo HEn HC
            go_region
            all_goals
              go_wp2
              refine bodyPost_ret (v := .tuple #[.agg #[.int .i64 0, .int .i64 0], .agg #[.int .i64 3, .int .i64 0]]) ?_ rfl ?_
              · simp [results, Tryd.results26, go_sem, y0, y1, y2, y3]
              · exact ⟨rfl, by repeat' first | exact HBw3.out | apply Below.drew | (refine Below.setCell ?_ (by simp) _)⟩
    have hi27 : i < 27 := by omega
    have hix := fun W => fr_at i hi27 W
    have hsep := sep_le i hi27
    have hn := (nst_bd i hi HG.out).1 (sep i)
    have hr4 := HI.out.below HA.out.2
    have y0 := hr4.a0
    have y1 := hr4.a1
    have y2 := hr4.b0
    have y3 := hr4.b1
    have z0 := hr4.f0
    have z1 := hr4.f1
    have z2 := hr4.g0
    have z3 := hr4.g1
    have hne : ¬ w.heap.size = w.heap.size + 1 := by omega
    have hne' : ¬ w.heap.size + 1 = w.heap.size := by omega
    have HBw := Lib.hid (below_step HB2.out HA.out.2)
    clear hr4
    by_cases cl : i < s.size
    · have hub : s[i].toNat < 256 := s[i].toNat_lt
      have hbt := bt_in cl
      have b1 : decide ((s.size : Int) ≤ (i : Int)) = false := by simp; omega
      have b1' : decide (s.size ≤ i) = false := by simp; omega
      cases hdg : digF i with
      | true =>
        have hf : frF i = 100 := by unfold frF; rw [hdg]; rfl
        rw [hf] at hix
        unfold formR at hix
        have k1 : ((100 : Int) == 100) = true := by decide
        by_cases c1 : 48 ≤ s[i].toNat ∧ s[i].toNat ≤ 57
        · have HG1 : Hid (goodAt s i) := Lib.hid ⟨cl, Or.inl ⟨hdg, by rw [hbt]; exact c1⟩⟩
          have HG2 : Hid (∀ j, j < i + 1 → goodAt s j) := Lib.hid (fun j hj => by
            rcases Nat.lt_or_ge j i with h | h
            · exact HG.out j h
            · rw [show j = i by omega]; exact HG1.out)
          have HP2 : Hid (badF s (27 - (i + 1)) (i + 1) = badF s 27 0) := Lib.hid (by rw [← badF_good HG1.out hi27]; exact HP.out)
          have HS : Hid (((nst s (i + 1) (sep (i + 1)) : Nat) : Int) = (nst s i (sep i) : Nat) * 10 + ((s[i].toNat : Int) - 48)) := Lib.hid (by rw [sep_d hdg, nst_d hdg, upN_at, hbt]; omega)
          have HL : Hid (Gath W2 u8 (finL s (i + 1)) wr) := Lib.hid (by rw [finL_d hdg]; exact HA.out)
          obtain ⟨c11, c12⟩ := c1
          have hd : (decide (48 ≤ s[i].toNat) && decide (s[i].toNat ≤ 57)) = true := by simp [c11, c12]
          have HD := Lib.hid (fun W => isDigit_any s[i].toNat W)
          rw [hd] at HD
          clear hf hbt hdg HG HP HG1 HA hd y0 y1 y2 y3 z0 z1 z2 z3
          generalize nst s i (sep i) = N at *
          go_wp2_with fail
          refine (HD.out _).mono ?_; rintro e w3 ⟨rfl, rfl⟩
          clear HD
          go_wp2
          go_roundw
          case rel => exact ⟨i + 1, by omega, by rw [HS.out], by go_num, HG2, HP2, HL⟩
          case measure => simp [intOf]; omega
        · have hng : ¬ goodAt s i := fun g => by
            rcases g.2 with ⟨_, g2⟩ | ⟨g1, _⟩
            · rw [hbt] at g2; exact c1 g2
            · rw [hdg] at g1; cases g1
          have HX : Hid (badF s 27 0 = some i) := Lib.hid (by rw [← HP.out]; exact badF_bad hng hi27)
          have HE := Lib.hid (HRb.out i HX.out)
          have hd : (decide (48 ≤ s[i].toNat) && decide (s[i].toNat ≤ 57)) = false := by
            rcases Nat.lt_or_ge s[i].toNat 48 with h | h
            · simp [Nat.not_le.2 h]
            · have : ¬ s[i].toNat ≤ 57 := fun h2 => c1 ⟨h, h2⟩
              simp [this]
          have HD := Lib.hid (fun W => isDigit_any s[i].toNat W)
          rw [hd] at HD
          have hmin : min i s.size = i := by omega
          rw [hmin] at HE
          clear hf hbt hdg HG HP HA hd hng HX c1
          go_wp2_with fail
          refine (HD.out _).mono ?_; rintro e w3 ⟨rfl, rfl⟩
          clear HD
          go_wp2
          obtain ⟨rfl, rfl, rfl, rfl⟩ : q1 = 0 ∧ q2 = 0 ∧ q3 = 1 ∧ q4 = i := by have := HE.out; simp at this; exact this
          refine bodyPost_ret (v := .tuple #[.agg #[.int .i64 0, .int .i64 0], .agg #[.int .i64 1, .int .i64 i]]) ?_ rfl ?_
          · simp [results, Tryd.results26, go_sem, y0, y1, y2, y3]
          · exact ⟨rfl, (((HBw.out.setCell (by simp) _).setCell (by simp) _).setCell (by simp) _).setCell (by simp) _⟩
      | false =>
        obtain ⟨g1, g2⟩ := sigF_ne2 i
        have hf : frF i = sigF i := by unfold frF; rw [hdg]; rfl
        rw [hf] at hix
        unfold formR at hix
        have HD := Lib.hid (fun W => isDigit_any s[i].toNat W)
        generalize (decide (48 ≤ s[i].toNat) && decide (s[i].toNat ≤ 57)) = db at *
        have k1 : ((sigF i : Int) == 100) = false := by simp; omega
        by_cases c1 : s[i].toNat = sigF i
        · have HG1 : Hid (goodAt s i) := Lib.hid ⟨cl, Or.inr ⟨hdg, by rw [hbt]; exact c1⟩⟩
          have HG2 : Hid (∀ j, j < i + 1 → goodAt s j) := Lib.hid (fun j hj => by
            rcases Nat.lt_or_ge j i with h | h
            · exact HG.out j h
            · rw [show j = i by omega]; exact HG1.out)
          have HP2 : Hid (badF s (27 - (i + 1)) (i + 1) = badF s 27 0) := Lib.hid (by rw [← badF_good HG1.out hi27]; exact HP.out)
          have HS : Hid (nst s (i + 1) (sep (i + 1)) = 0) := Lib.hid (by rw [sep_s hdg, nst_s hdg]; exact (nst_bd i hi HG.out).2.2 _ (by omega))
          have HL : Hid (finL s (i + 1) = finL s i ++ [((nst s i (sep i) : Nat) : Int)]) := Lib.hid (finL_s hdg)
          have hlen : (finL s i).length ≤ 6 := by rw [finL_len]; exact hsep
          have hos := Lib.hid (fun k o => World.ownsRow.alloc (show (wr.drewN k).ownsRow W2.heap.size 3 1 u8 (finL s i).length ((finL s i).map (Value.int .i64)) from own_drewN HA.out.1 k) o)
          have hsz := HA.out.2.size
          have k3 : ((s[i].toNat : Int) != (sigF i : Int)) = false := by simp; omega
          have HAA := Lib.hid (fun k => (show Gath W2 u8 (finL s i) (wr.drewN k) from ⟨own_drewN HA.out.1 k, below_drewN HA.out.2 k⟩))
          clear hf hbt hdg HG HP HG1 HA y0 y1 y2 y3 z0 z1 z2 z3 c1
          generalize sigF i = C at *
          generalize nst s i (sep i) = N at *
          generalize finL s i = L at *
          go_wp2_with fail
          refine (HD.out _).mono ?_; rintro e w3 ⟨rfl, rfl⟩
          clear HD
          go_wp2
          go_quiet (fail)
          have hcn := new_cellD wr nq (.int .i64 (N : Int)) 3
          have hsz2 : W2.heap.size ≤ ((wr.drewN nq).alloc (.cells #[.int .i64 (N : Int)] 3)).heap.size := by simp; omega
          go_wp2_with (first
            | (at_builtin; refine wpList_append_own_at _ rfl _ _ 29 rfl W2.heap.size 3 j0 (.int .i64 0) 1 8 Tryd.underlying29 ji jz0 jz1 jz2 rfl (by decide) u8 L.length (L.map (Value.int .i64)) rfl (hos.out _ _) ⟨wr.heap.size, 0, none⟩ 1 1 [.int .i64 (N : Int)] rfl rfl ?c1 ?c2 ?c3 ?c4 ?c5 ?_)
            | fail)
          case c1 =>
            intro j u hj
            match j, hj with
            | 0, hj => simp at hj; subst hj; exact hcn
          case c2 =>
            intro u hu
            simp only [List.mem_cons, List.not_mem_nil, or_false] at hu
            subst hu; rfl
          case c3 => unfold maxLen; omega
          case c4 => omega
          case c5 => exact hsz2
          intro v' w4 hown hgrow _ _
          have R := Lib.hid (Gath.step (HAA.out _) hown hgrow)
          clear hown hgrow hos HAA
          go_wp2
          go_roundw
          case rel => exact ⟨i + 1, by omega, by rw [HS.out]; rfl, by go_num, HG2, HP2, Lib.hid (by rw [HL.out]; exact R.out)⟩
          case measure => simp [intOf]; omega
        · have hng : ¬ goodAt s i := fun g => by
            rcases g.2 with ⟨g1, _⟩ | ⟨_, g2⟩
            · rw [hdg] at g1; cases g1
            · rw [hbt] at g2; exact c1 g2
          have HX : Hid (badF s 27 0 = some i) := Lib.hid (by rw [← HP.out]; exact badF_bad hng hi27)
          have HE := Lib.hid (HRb.out i HX.out)
          have hmin : min i s.size = i := by omega
          rw [hmin] at HE
          have k3 : ((s[i].toNat : Int) != (sigF i : Int)) = true := by simp; omega
          clear hf hbt hdg HG HP HA hng HX c1
          generalize sigF i = C at *
          go_wp2_with fail
          refine (HD.out _).mono ?_; rintro e w3 ⟨rfl, rfl⟩
          clear HD
          go_wp2
          go_quiet (fail)
          go_wp2
          obtain ⟨rfl, rfl, rfl, rfl⟩ : q1 = 0 ∧ q2 = 0 ∧ q3 = 1 ∧ q4 = i := by have := HE.out; simp at this; exact this
          refine bodyPost_ret (v := .tuple #[.agg #[.int .i64 0, .int .i64 0], .agg #[.int .i64 1, .int .i64 i]]) ?_ rfl ?_
          · simp [results, Tryd.results26, go_sem, y0, y1, y2, y3]
          · exact ⟨rfl, ((((below_drewN HBw.out _).setCell (by simp) _).setCell (by simp) _).setCell (by simp) _).setCell (by simp) _⟩
    · have hng : ¬ goodAt s i := fun g => cl g.1
      have HX : Hid (badF s 27 0 = some i) := Lib.hid (by rw [← HP.out]; exact badF_bad hng hi27)
      have HE := Lib.hid (HRb.out i HX.out)
      have hmin : min i s.size = s.size := by omega
      rw [hmin] at HE
      have b1 : decide ((s.size : Int) ≤ (i : Int)) = true := by simp; omega
      have b1' : decide (s.size ≤ i) = true := by simp; omega
      clear HG HP HA hng HX hix
      go_wp2
      obtain ⟨rfl, rfl, rfl, rfl⟩ : q1 = 0 ∧ q2 = 0 ∧ q3 = 1 ∧ q4 = s.size := by have := HE.out; simp at this; exact this
      refine bodyPost_ret (v := .tuple #[.agg #[.int .i64 0, .int .i64 0], .agg #[.int .i64 1, .int .i64 s.size]]) ?_ rfl ?_
      · simp [results, Tryd.results26, go_sem, y0, y1, y2, y3]
      · exact ⟨rfl, (((HBw.out.setCell (by simp) _).setCell (by simp) _).setCell (by simp) _).setCell (by simp) _⟩
end Go.Proofs.YtjdjncfpcbeedaaDoor
