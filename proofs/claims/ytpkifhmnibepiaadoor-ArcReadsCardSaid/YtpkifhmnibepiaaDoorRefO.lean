/- DegreesOf and HoursOf of package meridianref1: their walks. -/
import Derived.Test.YtpkifhmnibepiaaDoorScanRel
namespace Go.Proofs.YtpkifhmnibepiaaDoor
open Go.RowKit

/-- A list that the call gathers lies at the head of its row. -/
theorem Gath.row0 {w : World} {v : Value} {L : List Int} {wr : World} (h : Gath w v L wr) : ∃ a cap, v = .slice a L.length cap ∧ ∀ j, j < L.length → ∃ r, a = some ⟨r, 0, none⟩ ∧ r < wr.heap.size ∧ wr.cell? ⟨r, j, none⟩ = some (.int .i64 (L.getD j 0)) := by
  rcases h.1.2 with ⟨e, hk0⟩ | ⟨g, cap, cur, e, _⟩
  · refine ⟨none, 0, by rw [hk0]; exact e, fun j hj => ?_⟩
    omega
  · refine ⟨some ⟨g, 0, none⟩, cap, e, fun j hj => ?_⟩
    have c1 := h.1.cells (g := g) (by rw [e]; rfl) j (.int .i64 (L.getD j 0)) (by rw [List.getElem?_map, List.getElem?_eq_getElem hj, List.getD_eq_getElem?_getD, List.getElem?_eq_getElem hj]; rfl)
    have ea : (⟨g, 0, none⟩ : Addr).add j = ⟨g, j, none⟩ := by
      unfold Addr.add
      split <;> simp_all
    rw [ea] at c1
    exact ⟨g, rfl, cell_lt c1, c1⟩
/-- The state of a reference's reading: the fault's two cells, and the scan. -/
structure RR (w : World) (sb : Nat) (a : Option Addr) (N cap : Nat) (L : Nat → Int) (k : Nat) (bad : Int) (W : World) : Prop where
  sc : Rs W sb a N cap k bad W
  ok : RsOk W sb a N L
  lt : w.heap.size < sb
  c0 : W.cell? ⟨w.heap.size, 0, none⟩ = some (.int .i64 0)
  c1 : W.cell? ⟨w.heap.size, 1, none⟩ = some (.int .i64 0)
  f0 : W.frozen? ⟨w.heap.size, 0, none⟩ = false
  f1 : W.frozen? ⟨w.heap.size, 1, none⟩ = false
  below : Below w.heap.size w W
theorem RR.step {w : World} {sb : Nat} {a : Option Addr} {N cap : Nat} {L : Nat → Int} {k : Nat} {bad : Int} {W : World} (h : RR w sb a N cap L k bad W) {k' : Nat} {bad' : Int} {W' : World} (hs : Rs W sb a N cap k' bad' W') : RR w sb a N cap L k' bad' W' := by
  have hb := hs.1
  have hl := h.lt
  refine ⟨⟨Below.refl _ _, hs.2⟩, ⟨h.ok.1, fun j hj => ?_⟩, hl, ?_, ?_, ?_, ?_, h.below.trans (hb.mono (by omega))⟩
  · obtain ⟨r, e1, e2, e3⟩ := h.ok.2 j hj
    exact ⟨r, e1, e2, by rw [hb.cell (p := ⟨r, j, none⟩) e2]; exact e3⟩
  · rw [hb.cell (p := ⟨w.heap.size, 0, none⟩) hl]; exact h.c0
  · rw [hb.cell (p := ⟨w.heap.size, 1, none⟩) hl]; exact h.c1
  · rw [hb.frozen (p := ⟨w.heap.size, 0, none⟩) hl]; exact h.f0
  · rw [hb.frozen (p := ⟨w.heap.size, 1, none⟩) hl]; exact h.f1
theorem RR.start {w w1 : World} {v : Value} {l : List Int} (hg : Gath (w.alloc (.cells #[.int .i64 0, .int .i64 0] 27)) v l w1) (hl : l.length ≤ 1000000) : ∃ a cap, v = .slice a l.length cap ∧
    RR w w1.heap.size a l.length cap (fun j => l.getD j 0) 0 (-1) (w1.alloc (.cells #[.slice a l.length cap, .int .i64 0, .int .i64 (-1)] 113)) := by
  obtain ⟨a, cap, e, hr⟩ := hg.row0
  have hb := hg.2
  have hs := hb.size
  simp only [World.size_alloc] at hs
  refine ⟨a, cap, e, ⟨Below.refl _ _, by go_simp, by go_simp, by go_simp, by go_simp, by go_simp⟩, ⟨hl, fun j hj => ?_⟩, by omega, ?_, ?_, ?_, ?_, ?_⟩
  · obtain ⟨r, e1, e2, e3⟩ := hr j hj
    exact ⟨r, e1, e2, by rw [World.cell?_alloc_lt _ _ ⟨r, j, none⟩ e2]; exact e3⟩
  · rw [World.cell?_alloc_lt _ _ ⟨w.heap.size, 0, none⟩ (by simp; omega), hb.cell (p := ⟨w.heap.size, 0, none⟩) (by simp)]; simp
  · rw [World.cell?_alloc_lt _ _ ⟨w.heap.size, 1, none⟩ (by simp; omega), hb.cell (p := ⟨w.heap.size, 1, none⟩) (by simp)]; simp
  · rw [World.frozen?_alloc_old _ _ ⟨w.heap.size, 0, none⟩ (by simp; omega), hb.frozen (p := ⟨w.heap.size, 0, none⟩) (by simp)]; simp
  · rw [World.frozen?_alloc_old _ _ ⟨w.heap.size, 1, none⟩ (by simp; omega), hb.frozen (p := ⟨w.heap.size, 1, none⟩) (by simp)]; simp
  · exact (below_step ((Below.refl _ _).alloc (Nat.le_refl _) _) hb).alloc (by omega) _
def RefP (w : World) (r : Int × Int × Int) (e : Ending) (w' : World) : Prop := e = .returned (.tuple #[.int .i64 r.1, .agg #[.int .i64 r.2.1, .int .i64 r.2.2]]) ∧ Below w.heap.size w w'

set_option maxRecDepth 20000 in
set_option maxHeartbeats 8000000 in
theorem degreesOf_neg (s : ByteArray) (hs : s.size ≤ 1000000) (w : World) (h0 : seeF (runes s).length (runeR s) 0 = 45) :
    Calls Tryd.prog 15 #[.string s] w (RefP w (refO (degO (seeF (runes s).length (runeR s)) (runes s).length))) := by
  have HR := Lib.hid (fun w => runes_any s hs w)
  have hl := runes_length s
  have hl2 := runesR_length s
  have EL : runeR s = fun j => (runesR s).getD j 0 := rfl
  rw [EL, ← hl2] at h0 ⊢
  have HLN : Hid ((runesR s).length ≤ 1000000) := Lib.hid (by omega)
  clear EL hl hl2
  generalize runesR s = l at *
  have HRS := Lib.hid (fun w1 v hg => RR.start (w := w) (w1 := w1) (v := v) (l := l) hg HLN.out)
  have hN := HLN.out
  have HR' : Hid (∀ w, Calls Tryd.prog 63 #[.string s] w fun e w1 => ∃ v, e = .returned v ∧ Gath w v l w1) := HR
  generalize (fun j => l.getD j 0) = L at *
  clear HR HLN
  generalize l.length = N at *
  go_enter Tryd.func15, Tryd.ntmps15
  go_wp2_with fail
  refine (HR'.out _).mono ?_; rintro e w1 ⟨v, rfl, hg⟩
  obtain ⟨a, cap, rfl, hr0⟩ := HRS.out _ _ hg
  have R0 := Lib.hid hr0
  clear hg hr0 HR' HRS
  go_wp2_with fail
  refine (see_any R0.out.ok 0 (by omega) (-1) _ R0.out.sc).mono ?_; rintro e w2 ⟨rfl, h2⟩
  have R2 := Lib.hid (R0.out.step h2)
  clear h2 R0
  have E0 : Hid (degO (seeF N L) N = signO true (match numO (seeF N L) 1 6 1 with | .bad k => .bad k | .ok d k => if seeF N L k = 176 then (match restO (seeF N L) N 8242 8243 (k + 1) with | .bad k => .bad k | .ok n k => .ok (d * 3600 * 1000000 + n) k) else .bad k)) := Lib.hid (degO_neg h0)
  rw [h0]
  clear h0
  obtain ⟨_, _, x1, _, x2, _⟩ := R2.out.sc
  go_wp2_with fail
  have R3 := Lib.hid (R2.out.step (R2.out.sc.at 1 (z := 1) rfl))
  clear x1 x2 R2
  have P7 := numberR_any (cap := cap) R3.out.ok 1 6 1 (by omega) (by omega) (-1) _ R3.out.sc
  have hcb7 := cnt_le (seeF N L) 6 1
  have hvb7 := numV_bd (seeF N L) 1 (cnt (seeF N L) 6 1) (fun j hj => cnt_digit (seeF N L) 6 1 j hj)
  generalize hc7 : cnt (seeF N L) 6 1 = c7 at *
  generalize hm7 : numV (seeF N L) 1 c7 = m7 at *
  generalize hb7 : nb 1 c7 (-1) (1 + c7) = b7 at *
  have hp7 := pow10_le c7 (by omega)
  have hm70 : 0 ≤ m7 := hvb7.1
  have hm71 : m7 < 1000000 := by have := hvb7.2; omega
  have HC7 := Lib.hid hc7
  have HM7 := Lib.hid hm7
  have HB7 := Lib.hid hb7
  refine P7.mono ?_; rintro e w7 ⟨rfl, h7⟩
  have R7 := Lib.hid (R3.out.step h7)
  clear P7 h7 hc7 hm7 hb7 hvb7 hp7
  go_wp2_with fail
  have hn8 := needR_any (cap := cap) R7.out.ok (1 + c7) (by omega) b7 176 _ R7.out.sc
  generalize hb8 : needB (seeF N L) 176 (1 + c7) b7 = b8 at *
  have HB8 := Lib.hid hb8
  refine hn8.mono ?_; rintro e w8 ⟨rfl, h8⟩
  have R8 := Lib.hid (R7.out.step h8)
  clear h8 hn8 hb8 R7
  go_wp2_with fail
  have hr9 := restR_any (cap := cap) R8.out.ok 8242 8243 (1 + c7 + 1) (by omega) b8 _ R8.out.sc
  have hrb := restR_bd (s := seeF N L) (N := N) (k := 1 + c7 + 1) (mn := 8242) (sc := 8243) (b := b8)
  generalize hrr : restR (seeF N L) N 8242 8243 (1 + c7 + 1) b8 = rr at *
  have HRR := Lib.hid hrr
  obtain ⟨hrb0, hrb1⟩ := hrb
  refine hr9.mono ?_; rintro e w9 ⟨rfl, h9⟩
  have R9 := Lib.hid (R8.out.step h9)
  clear h9 hr9 hrr R8
  obtain ⟨o1, ho1⟩ : ∃ o1 : Out, o1 = (match numO (seeF N L) 1 6 1 with | .bad k => .bad k | .ok d k => if seeF N L k = 176 then (match restO (seeF N L) N 8242 8243 (k + 1) with | .bad k => .bad k | .ok n k => .ok (d * 3600 * 1000000 + n) k) else .bad k) := ⟨_, rfl⟩
  have HD := Lib.hid (neg_rel (E0.out.trans (by rw [← ho1])) (deg_rel ho1 HC7.out HM7.out HB7.out HB8.out HRR.out))
  clear ho1 E0
  rcases HD.out with ⟨j, ho, hbad⟩ | ⟨x, ho, hbad⟩
  · have HO := Lib.hid ho
    have x1 := R9.out.sc.2.2.2.1
    rw [hbad] at x1
    have y0 := R9.out.c0
    have y1 := R9.out.c1
    have z0 := R9.out.f0
    have z1 := R9.out.f1
    clear ho hbad
    go_wp2
    refine bodyPost_ret (v := .tuple #[.int .i64 (-(m7 * 3600 * 1000000 + rr.1)), .agg #[.int .i64 0, .int .i64 (-1)]]) ?_ rfl ?_
    · simp [results, Tryd.results15, go_sem, y0, y1, z0, z1]
    · rw [HO.out]
      exact ⟨rfl, (R9.out.below.setCell (by simp) _).setCell (by simp) _⟩
  · have HO := Lib.hid ho
    have x1 := R9.out.sc.2.2.2.1
    rw [hbad] at x1
    have y0 := R9.out.c0
    have y1 := R9.out.c1
    have z0 := R9.out.f0
    have z1 := R9.out.f1
    have d0 : decide ((0 : Int) ≤ (x : Int)) = true := by simp
    clear ho hbad
    go_wp2
    go_region
    all_goals
      go_wp2
      refine bodyPost_ret (v := .tuple #[.int .i64 0, .agg #[.int .i64 1, .int .i64 x]]) ?_ rfl ?_
      · simp [results, Tryd.results15, go_sem, y0, y1, z0, z1]
      · rw [HO.out]
        exact ⟨rfl, (((R9.out.below.drew).setCell (by simp) _).setCell (by simp) _)⟩
set_option maxRecDepth 20000 in
set_option maxHeartbeats 8000000 in
theorem degreesOf_plus (s : ByteArray) (hs : s.size ≤ 1000000) (w : World) (h0 : seeF (runes s).length (runeR s) 0 ≠ 45) (h1 : seeF (runes s).length (runeR s) 0 = 43) :
    Calls Tryd.prog 15 #[.string s] w (RefP w (refO (degO (seeF (runes s).length (runeR s)) (runes s).length))) := by
  have HR := Lib.hid (fun w => runes_any s hs w)
  have hl := runes_length s
  have hl2 := runesR_length s
  have EL : runeR s = fun j => (runesR s).getD j 0 := rfl
  rw [EL, ← hl2] at h0 h1 ⊢
  have HLN : Hid ((runesR s).length ≤ 1000000) := Lib.hid (by omega)
  clear EL hl hl2
  generalize runesR s = l at *
  have HRS := Lib.hid (fun w1 v hg => RR.start (w := w) (w1 := w1) (v := v) (l := l) hg HLN.out)
  have hN := HLN.out
  have HR' : Hid (∀ w, Calls Tryd.prog 63 #[.string s] w fun e w1 => ∃ v, e = .returned v ∧ Gath w v l w1) := HR
  generalize (fun j => l.getD j 0) = L at *
  clear HR HLN
  generalize l.length = N at *
  go_enter Tryd.func15, Tryd.ntmps15
  go_wp2_with fail
  refine (HR'.out _).mono ?_; rintro e w1 ⟨v, rfl, hg⟩
  obtain ⟨a, cap, rfl, hr0⟩ := HRS.out _ _ hg
  have R0 := Lib.hid hr0
  clear hg hr0 HR' HRS
  go_wp2_with fail
  refine (see_any R0.out.ok 0 (by omega) (-1) _ R0.out.sc).mono ?_; rintro e w2 ⟨rfl, h2⟩
  have R2 := Lib.hid (R0.out.step h2)
  clear h2 R0
  have E0 : Hid (degO (seeF N L) N = (match numO (seeF N L) 1 6 1 with | .bad k => .bad k | .ok d k => if seeF N L k = 176 then (match restO (seeF N L) N 8242 8243 (k + 1) with | .bad k => .bad k | .ok n k => .ok (d * 3600 * 1000000 + n) k) else .bad k)) := Lib.hid (degO_plus h0 h1)
  have d45 : (seeF N L 0 == 45) = false := by simpa using h0
  have d43 : (seeF N L 0 == 43) = true := by simpa using h1
  generalize seeF N L 0 = x0 at *
  clear h0 h1
  obtain ⟨_, _, x1, _, x2, _⟩ := R2.out.sc
  go_wp2_with fail
  have R3 := Lib.hid (R2.out.step (R2.out.sc.at 1 (z := 1) rfl))
  clear x1 x2 R2
  have P7 := numberR_any (cap := cap) R3.out.ok 1 6 1 (by omega) (by omega) (-1) _ R3.out.sc
  have hcb7 := cnt_le (seeF N L) 6 1
  have hvb7 := numV_bd (seeF N L) 1 (cnt (seeF N L) 6 1) (fun j hj => cnt_digit (seeF N L) 6 1 j hj)
  generalize hc7 : cnt (seeF N L) 6 1 = c7 at *
  generalize hm7 : numV (seeF N L) 1 c7 = m7 at *
  generalize hb7 : nb 1 c7 (-1) (1 + c7) = b7 at *
  have hp7 := pow10_le c7 (by omega)
  have hm70 : 0 ≤ m7 := hvb7.1
  have hm71 : m7 < 1000000 := by have := hvb7.2; omega
  have HC7 := Lib.hid hc7
  have HM7 := Lib.hid hm7
  have HB7 := Lib.hid hb7
  refine P7.mono ?_; rintro e w7 ⟨rfl, h7⟩
  have R7 := Lib.hid (R3.out.step h7)
  clear P7 h7 hc7 hm7 hb7 hvb7 hp7
  go_wp2_with fail
  have hn8 := needR_any (cap := cap) R7.out.ok (1 + c7) (by omega) b7 176 _ R7.out.sc
  generalize hb8 : needB (seeF N L) 176 (1 + c7) b7 = b8 at *
  have HB8 := Lib.hid hb8
  refine hn8.mono ?_; rintro e w8 ⟨rfl, h8⟩
  have R8 := Lib.hid (R7.out.step h8)
  clear h8 hn8 hb8 R7
  go_wp2_with fail
  have hr9 := restR_any (cap := cap) R8.out.ok 8242 8243 (1 + c7 + 1) (by omega) b8 _ R8.out.sc
  have hrb := restR_bd (s := seeF N L) (N := N) (k := 1 + c7 + 1) (mn := 8242) (sc := 8243) (b := b8)
  generalize hrr : restR (seeF N L) N 8242 8243 (1 + c7 + 1) b8 = rr at *
  have HRR := Lib.hid hrr
  obtain ⟨hrb0, hrb1⟩ := hrb
  refine hr9.mono ?_; rintro e w9 ⟨rfl, h9⟩
  have R9 := Lib.hid (R8.out.step h9)
  clear h9 hr9 hrr R8
  rcases deg_rel E0.out HC7.out HM7.out HB7.out HB8.out HRR.out with ⟨j, ho, hbad⟩ | ⟨x, ho, hbad⟩
  · have HO := Lib.hid ho
    have x1 := R9.out.sc.2.2.2.1
    rw [hbad] at x1
    have y0 := R9.out.c0
    have y1 := R9.out.c1
    have z0 := R9.out.f0
    have z1 := R9.out.f1
    clear ho hbad
    go_wp2
    refine bodyPost_ret (v := .tuple #[.int .i64 (m7 * 3600 * 1000000 + rr.1), .agg #[.int .i64 0, .int .i64 (-1)]]) ?_ rfl ?_
    · simp [results, Tryd.results15, go_sem, y0, y1, z0, z1]
    · rw [HO.out]
      exact ⟨rfl, (R9.out.below.setCell (by simp) _).setCell (by simp) _⟩
  · have HO := Lib.hid ho
    have x1 := R9.out.sc.2.2.2.1
    rw [hbad] at x1
    have y0 := R9.out.c0
    have y1 := R9.out.c1
    have z0 := R9.out.f0
    have z1 := R9.out.f1
    have d0 : decide ((0 : Int) ≤ (x : Int)) = true := by simp
    clear ho hbad
    go_wp2
    go_region
    all_goals
      go_wp2
      refine bodyPost_ret (v := .tuple #[.int .i64 0, .agg #[.int .i64 1, .int .i64 x]]) ?_ rfl ?_
      · simp [results, Tryd.results15, go_sem, y0, y1, z0, z1]
      · rw [HO.out]
        exact ⟨rfl, (((R9.out.below.drew).setCell (by simp) _).setCell (by simp) _)⟩
set_option maxRecDepth 20000 in
set_option maxHeartbeats 8000000 in
theorem degreesOf_none (s : ByteArray) (hs : s.size ≤ 1000000) (w : World) (h0 : seeF (runes s).length (runeR s) 0 ≠ 45) (h1 : seeF (runes s).length (runeR s) 0 ≠ 43) :
    Calls Tryd.prog 15 #[.string s] w (RefP w (refO (degO (seeF (runes s).length (runeR s)) (runes s).length))) := by
  have HR := Lib.hid (fun w => runes_any s hs w)
  have hl := runes_length s
  have hl2 := runesR_length s
  have EL : runeR s = fun j => (runesR s).getD j 0 := rfl
  rw [EL, ← hl2] at h0 h1 ⊢
  have HLN : Hid ((runesR s).length ≤ 1000000) := Lib.hid (by omega)
  clear EL hl hl2
  generalize runesR s = l at *
  have HRS := Lib.hid (fun w1 v hg => RR.start (w := w) (w1 := w1) (v := v) (l := l) hg HLN.out)
  have hN := HLN.out
  have HR' : Hid (∀ w, Calls Tryd.prog 63 #[.string s] w fun e w1 => ∃ v, e = .returned v ∧ Gath w v l w1) := HR
  generalize (fun j => l.getD j 0) = L at *
  clear HR HLN
  generalize l.length = N at *
  go_enter Tryd.func15, Tryd.ntmps15
  go_wp2_with fail
  refine (HR'.out _).mono ?_; rintro e w1 ⟨v, rfl, hg⟩
  obtain ⟨a, cap, rfl, hr0⟩ := HRS.out _ _ hg
  have R0 := Lib.hid hr0
  clear hg hr0 HR' HRS
  go_wp2_with fail
  refine (see_any R0.out.ok 0 (by omega) (-1) _ R0.out.sc).mono ?_; rintro e w2 ⟨rfl, h2⟩
  have R2 := Lib.hid (R0.out.step h2)
  clear h2 R0
  have E0 : Hid (degO (seeF N L) N = (match numO (seeF N L) 1 6 0 with | .bad k => .bad k | .ok d k => if seeF N L k = 176 then (match restO (seeF N L) N 8242 8243 (k + 1) with | .bad k => .bad k | .ok n k => .ok (d * 3600 * 1000000 + n) k) else .bad k)) := Lib.hid (degO_none h0 h1)
  have d45 : (seeF N L 0 == 45) = false := by simpa using h0
  have d43 : (seeF N L 0 == 43) = false := by simpa using h1
  generalize seeF N L 0 = x0 at *
  clear h0 h1
  go_wp2_with fail
  have P7 := numberR_any (cap := cap) R2.out.ok 1 6 0 (by omega) (by omega) (-1) _ R2.out.sc
  have hcb7 := cnt_le (seeF N L) 6 0
  have hvb7 := numV_bd (seeF N L) 0 (cnt (seeF N L) 6 0) (fun j hj => cnt_digit (seeF N L) 6 0 j hj)
  generalize hc7 : cnt (seeF N L) 6 0 = c7 at *
  generalize hm7 : numV (seeF N L) 0 c7 = m7 at *
  generalize hb7 : nb 1 c7 (-1) (0 + c7) = b7 at *
  have hp7 := pow10_le c7 (by omega)
  have hm70 : 0 ≤ m7 := hvb7.1
  have hm71 : m7 < 1000000 := by have := hvb7.2; omega
  have HC7 := Lib.hid hc7
  have HM7 := Lib.hid hm7
  have HB7 := Lib.hid hb7
  refine P7.mono ?_; rintro e w7 ⟨rfl, h7⟩
  have R7 := Lib.hid (R2.out.step h7)
  clear P7 h7 hc7 hm7 hb7 hvb7 hp7
  go_wp2_with fail
  have hn8 := needR_any (cap := cap) R7.out.ok (0 + c7) (by omega) b7 176 _ R7.out.sc
  generalize hb8 : needB (seeF N L) 176 (0 + c7) b7 = b8 at *
  have HB8 := Lib.hid hb8
  refine hn8.mono ?_; rintro e w8 ⟨rfl, h8⟩
  have R8 := Lib.hid (R7.out.step h8)
  clear h8 hn8 hb8 R7
  go_wp2_with fail
  have hr9 := restR_any (cap := cap) R8.out.ok 8242 8243 (0 + c7 + 1) (by omega) b8 _ R8.out.sc
  have hrb := restR_bd (s := seeF N L) (N := N) (k := 0 + c7 + 1) (mn := 8242) (sc := 8243) (b := b8)
  generalize hrr : restR (seeF N L) N 8242 8243 (0 + c7 + 1) b8 = rr at *
  have HRR := Lib.hid hrr
  obtain ⟨hrb0, hrb1⟩ := hrb
  refine hr9.mono ?_; rintro e w9 ⟨rfl, h9⟩
  have R9 := Lib.hid (R8.out.step h9)
  clear h9 hr9 hrr R8
  rcases deg_rel E0.out HC7.out HM7.out HB7.out HB8.out HRR.out with ⟨j, ho, hbad⟩ | ⟨x, ho, hbad⟩
  · have HO := Lib.hid ho
    have x1 := R9.out.sc.2.2.2.1
    rw [hbad] at x1
    have y0 := R9.out.c0
    have y1 := R9.out.c1
    have z0 := R9.out.f0
    have z1 := R9.out.f1
    clear ho hbad
    go_wp2
    refine bodyPost_ret (v := .tuple #[.int .i64 (m7 * 3600 * 1000000 + rr.1), .agg #[.int .i64 0, .int .i64 (-1)]]) ?_ rfl ?_
    · simp [results, Tryd.results15, go_sem, y0, y1, z0, z1]
    · rw [HO.out]
      exact ⟨rfl, (R9.out.below.setCell (by simp) _).setCell (by simp) _⟩
  · have HO := Lib.hid ho
    have x1 := R9.out.sc.2.2.2.1
    rw [hbad] at x1
    have y0 := R9.out.c0
    have y1 := R9.out.c1
    have z0 := R9.out.f0
    have z1 := R9.out.f1
    have d0 : decide ((0 : Int) ≤ (x : Int)) = true := by simp
    clear ho hbad
    go_wp2
    go_region
    all_goals
      go_wp2
      refine bodyPost_ret (v := .tuple #[.int .i64 0, .agg #[.int .i64 1, .int .i64 x]]) ?_ rfl ?_
      · simp [results, Tryd.results15, go_sem, y0, y1, z0, z1]
      · rw [HO.out]
        exact ⟨rfl, (((R9.out.below.drew).setCell (by simp) _).setCell (by simp) _)⟩
theorem degreesOf_any (s : ByteArray) (hs : s.size ≤ 1000000) (w : World) :
    Calls Tryd.prog 15 #[.string s] w (RefP w (refO (degO (seeF (runes s).length (runeR s)) (runes s).length))) := by
  by_cases h0 : seeF (runes s).length (runeR s) 0 = 45
  · exact degreesOf_neg s hs w h0
  · by_cases h1 : seeF (runes s).length (runeR s) 0 = 43
    · exact degreesOf_plus s hs w h0 h1
    · exact degreesOf_none s hs w h0 h1
set_option maxRecDepth 20000 in
set_option maxHeartbeats 8000000 in
theorem hoursOf_any (s : ByteArray) (hs : s.size ≤ 1000000) (w : World) :
    Calls Tryd.prog 17 #[.string s] w (RefP w (refO (houO (seeF (runes s).length (runeR s)) (runes s).length))) := by
  have HR := Lib.hid (fun w => runes_any s hs w)
  have hl := runes_length s
  have hl2 := runesR_length s
  have EL : runeR s = fun j => (runesR s).getD j 0 := rfl
  rw [EL, ← hl2] at ⊢
  have HLN : Hid ((runesR s).length ≤ 1000000) := Lib.hid (by omega)
  clear EL hl hl2
  generalize runesR s = l at *
  have HRS := Lib.hid (fun w1 v hg => RR.start (w := w) (w1 := w1) (v := v) (l := l) hg HLN.out)
  have hN := HLN.out
  have HR' : Hid (∀ w, Calls Tryd.prog 63 #[.string s] w fun e w1 => ∃ v, e = .returned v ∧ Gath w v l w1) := HR
  generalize (fun j => l.getD j 0) = L at *
  clear HR HLN
  generalize l.length = N at *
  go_enter Tryd.func17, Tryd.ntmps17
  go_wp2_with fail
  refine (HR'.out _).mono ?_; rintro e w1 ⟨v, rfl, hg⟩
  obtain ⟨a, cap, rfl, hr0⟩ := HRS.out _ _ hg
  have R0 := Lib.hid hr0
  clear hg hr0 HR' HRS
  go_wp2_with fail
  have P7 := numberR_any (cap := cap) R0.out.ok 1 2 0 (by omega) (by omega) (-1) _ R0.out.sc
  have hcb7 := cnt_le (seeF N L) 2 0
  have hvb7 := numV_bd (seeF N L) 0 (cnt (seeF N L) 2 0) (fun j hj => cnt_digit (seeF N L) 2 0 j hj)
  generalize hc7 : cnt (seeF N L) 2 0 = c7 at *
  generalize hm7 : numV (seeF N L) 0 c7 = m7 at *
  generalize hb7 : nb 1 c7 (-1) (0 + c7) = b7 at *
  have hp7 := pow10_le c7 (by omega)
  have hm70 : 0 ≤ m7 := hvb7.1
  have hm71 : m7 < 1000000 := by have := hvb7.2; omega
  have HC7 := Lib.hid hc7
  have HM7 := Lib.hid hm7
  have HB7 := Lib.hid hb7
  refine P7.mono ?_; rintro e w7 ⟨rfl, h7⟩
  have R7 := Lib.hid (R0.out.step h7)
  clear P7 h7 hc7 hm7 hb7 hvb7 hp7
  by_cases h23 : 23 < m7
  · have HI := Lib.hid h23
    go_wp2_with fail
    refine (wrongR_any _ _ 0 _ R7.out.sc).mono ?_; rintro e w3 ⟨rfl, h3⟩
    have R3 := Lib.hid (R7.out.step h3)
    clear h3 R7
    generalize hb' : wrB b7 0 = b' at *
    have HB' : Hid (b' = if 23 < m7 then wrB b7 0 else b7) := Lib.hid (by rw [if_pos HI.out, hb'])
    clear hb' 
    go_wp2_with fail
    have hn8 := needR_any (cap := cap) R3.out.ok (0 + c7) (by omega) b' 104 _ R3.out.sc
    generalize hb8 : needB (seeF N L) 104 (0 + c7) b' = b8 at *
    have HB8 := Lib.hid hb8
    refine hn8.mono ?_; rintro e w8 ⟨rfl, h8⟩
    have R8 := Lib.hid (R3.out.step h8)
    clear h8 hn8 hb8 R3
    go_wp2_with fail
    have hr9 := restR_any (cap := cap) R8.out.ok 109 115 (0 + c7 + 1) (by omega) b8 _ R8.out.sc
    have hrb := restR_bd (s := seeF N L) (N := N) (k := 0 + c7 + 1) (mn := 109) (sc := 115) (b := b8)
    generalize hrr : restR (seeF N L) N 109 115 (0 + c7 + 1) b8 = rr at *
    have HRR := Lib.hid hrr
    obtain ⟨hrb0, hrb1⟩ := hrb
    refine hr9.mono ?_; rintro e w9 ⟨rfl, h9⟩
    have R9 := Lib.hid (R8.out.step h9)
    clear h9 hr9 hrr R8
    rcases hou_rel HC7.out HM7.out HB7.out HB'.out HB8.out HRR.out with ⟨j, ho, hbad⟩ | ⟨x, ho, hbad⟩
    · have HO := Lib.hid ho
      have x1 := R9.out.sc.2.2.2.1
      rw [hbad] at x1
      have y0 := R9.out.c0
      have y1 := R9.out.c1
      have z0 := R9.out.f0
      have z1 := R9.out.f1
      clear ho hbad
      go_wp2
      refine bodyPost_ret (v := .tuple #[.int .i64 ((m7 * 3600 * 1000000 + rr.1) * 15), .agg #[.int .i64 0, .int .i64 (-1)]]) ?_ rfl ?_
      · simp [results, Tryd.results17, go_sem, y0, y1, z0, z1]
      · rw [HO.out]
        exact ⟨rfl, (R9.out.below.setCell (by simp) _).setCell (by simp) _⟩
    · have HO := Lib.hid ho
      have x1 := R9.out.sc.2.2.2.1
      rw [hbad] at x1
      have y0 := R9.out.c0
      have y1 := R9.out.c1
      have z0 := R9.out.f0
      have z1 := R9.out.f1
      have d0 : decide ((0 : Int) ≤ (x : Int)) = true := by simp
      clear ho hbad
      go_wp2
      go_region
      all_goals
        go_wp2
        refine bodyPost_ret (v := .tuple #[.int .i64 0, .agg #[.int .i64 1, .int .i64 x]]) ?_ rfl ?_
        · simp [results, Tryd.results17, go_sem, y0, y1, z0, z1]
        · rw [HO.out]
          exact ⟨rfl, (((R9.out.below.drew).setCell (by simp) _).setCell (by simp) _)⟩
  · have HI := Lib.hid h23
    have R3 := R7
    obtain ⟨b', hb'⟩ : ∃ b', b' = b7 := ⟨_, rfl⟩
    rw [← hb'] at R3
    have HB' : Hid (b' = if 23 < m7 then wrB b7 0 else b7) := Lib.hid (by rw [if_neg HI.out, hb'])
    clear hb' R7
    go_wp2_with fail
    have hn8 := needR_any (cap := cap) R3.out.ok (0 + c7) (by omega) b' 104 _ R3.out.sc
    generalize hb8 : needB (seeF N L) 104 (0 + c7) b' = b8 at *
    have HB8 := Lib.hid hb8
    refine hn8.mono ?_; rintro e w8 ⟨rfl, h8⟩
    have R8 := Lib.hid (R3.out.step h8)
    clear h8 hn8 hb8 R3
    go_wp2_with fail
    have hr9 := restR_any (cap := cap) R8.out.ok 109 115 (0 + c7 + 1) (by omega) b8 _ R8.out.sc
    have hrb := restR_bd (s := seeF N L) (N := N) (k := 0 + c7 + 1) (mn := 109) (sc := 115) (b := b8)
    generalize hrr : restR (seeF N L) N 109 115 (0 + c7 + 1) b8 = rr at *
    have HRR := Lib.hid hrr
    obtain ⟨hrb0, hrb1⟩ := hrb
    refine hr9.mono ?_; rintro e w9 ⟨rfl, h9⟩
    have R9 := Lib.hid (R8.out.step h9)
    clear h9 hr9 hrr R8
    rcases hou_rel HC7.out HM7.out HB7.out HB'.out HB8.out HRR.out with ⟨j, ho, hbad⟩ | ⟨x, ho, hbad⟩
    · have HO := Lib.hid ho
      have x1 := R9.out.sc.2.2.2.1
      rw [hbad] at x1
      have y0 := R9.out.c0
      have y1 := R9.out.c1
      have z0 := R9.out.f0
      have z1 := R9.out.f1
      clear ho hbad
      go_wp2
      refine bodyPost_ret (v := .tuple #[.int .i64 ((m7 * 3600 * 1000000 + rr.1) * 15), .agg #[.int .i64 0, .int .i64 (-1)]]) ?_ rfl ?_
      · simp [results, Tryd.results17, go_sem, y0, y1, z0, z1]
      · rw [HO.out]
        exact ⟨rfl, (R9.out.below.setCell (by simp) _).setCell (by simp) _⟩
    · have HO := Lib.hid ho
      have x1 := R9.out.sc.2.2.2.1
      rw [hbad] at x1
      have y0 := R9.out.c0
      have y1 := R9.out.c1
      have z0 := R9.out.f0
      have z1 := R9.out.f1
      have d0 : decide ((0 : Int) ≤ (x : Int)) = true := by simp
      clear ho hbad
      go_wp2
      go_region
      all_goals
        go_wp2
        refine bodyPost_ret (v := .tuple #[.int .i64 0, .agg #[.int .i64 1, .int .i64 x]]) ?_ rfl ?_
        · simp [results, Tryd.results17, go_sem, y0, y1, z0, z1]
        · rw [HO.out]
          exact ⟨rfl, (((R9.out.below.drew).setCell (by simp) _).setCell (by simp) _)⟩
end Go.Proofs.YtpkifhmnibepiaaDoor
