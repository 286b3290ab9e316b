/- arc.ReadHours. -/
import Derived.Test.YtpkifhmnibepiaaDoorReadDeg
namespace Go.Proofs.YtpkifhmnibepiaaDoor
open Go.RowKit

set_option maxRecDepth 20000 in
set_option maxHeartbeats 8000000 in
theorem readHou_any (s : ByteArray) (hs : s.size ≤ 1000000) (ad : Addr) (w : World) (hE : w.cell? ⟨0, 0, none⟩ = some (.iface 258 (.pointer (some ad)))) :
    Calls Tryd.prog 13 #[.string s] w (ReadP w ad (houO (seeF (runes s).length (runeL s)) (runes s).length)) := by
  have hmf : ∀ (fn : Fn) (first cap : Array Value) (w : World), (Instr.makeFunc fn first cap).run Tryd.prog w = .ok (.func fn first cap) w := fun _ _ _ _ => rfl
  obtain ⟨cap, X, hcv, hX⟩ := conv_runes s hs ((w.alloc (.cells #[.int .i64 0] 3)).alloc (.cells #[.nilIface] 23))
  have hl := runes_length s
  have R0 := Lib.hid (RD.start (w := w) (cap := cap) (by omega) hX)
  have HE := Lib.hid hE
  have HEB : Hid (0 < w.heap.size) := Lib.hid (cell_lt hE)
  have E0 : Hid (houO (seeF (runes s).length (runeL s)) (runes s).length = (match numO (seeF (runes s).length (runeL s)) 1 2 0 with | .bad k => .bad k | .ok d k => if 23 < d then .bad 0 else if seeF (runes s).length (runeL s) k = 104 then (match restO (seeF (runes s).length (runeL s)) (runes s).length 109 115 (k + 1) with | .bad k => .bad k | .ok n k => .ok ((d * 3600000000 + n) * 15) k) else .bad k)) := Lib.hid rfl
  clear hE hX
  generalize (runes s).length = N at *
  generalize runeL s = L at *
  go_enter_defers Tryd.func13, Tryd.ntmps13
  go_wp2_with fail
  have P1 := number_any R0.out.ok 1 2 0 (by omega) (by omega) _ R0.out.sc
  clear hcv
  cases hn : numO (seeF N L) 1 2 0 with
  | bad k1 =>
    rw [hn] at P1 E0
    refine P1.mono ?_; rintro e w2 ⟨rfl, hr2⟩
    have R2 := Lib.hid (R0.out.step hr2)
    clear hr2 P1 R0 hn
    go_wp2
    refine leaves_cons (f := 55) (args := #[.pointer (some ⟨w.heap.size, 0, none⟩), .pointer (some ⟨w.heap.size + 1, 0, none⟩)]) (by simp) (by simp [go_sem]) ?_
    refine (houCl_stop k1 _ _ _ ad _ R2.out.n R2.out.nf R2.out.e R2.out.ef (by simp) (by rw [R2.out.below.cell (p := ⟨0, 0, none⟩) HEB.out]; exact HE.out)).mono ?_
    rintro e u' w'' ⟨rfl, rfl, rfl⟩
    obtain ⟨WF, eW, c1, c2, c3, c4, c5, c6⟩ := R2.out.fault k1 ad
    rw [eW, E0.out]
    have HF : Hid (ReadP w ad (.bad k1) (.returned (.tuple #[.int .i64 0, .iface 125 (.pointer (some ⟨w2.heap.size, 0, none⟩))])) WF) := Lib.hid ⟨w2.heap.size, c5, rfl, c3, c4, c6⟩
    clear eW c3 c4 c5 c6
    simp [Leaves, settle, results, Tryd.results13, go_sem, c1, c2]
    exact HF.out
  | ok d k1 =>
    rw [hn] at P1 E0
    obtain ⟨c, hc, -, hd0, hd1⟩ := numO_inv hn
    have hd2 := pow10_le c (by omega)
    have hd3 : d < 1000000 := by omega
    refine P1.mono ?_; rintro e w2 ⟨rfl, hr2⟩
    have R2 := Lib.hid (R0.out.step hr2)
    clear hr2 P1 R0 hn hd1 hd2
    by_cases h23 : 23 < d
    · have E1 : Hid (houO (seeF N L) N = .bad 0) := Lib.hid (by rw [E0.out]; exact if_pos h23)
      obtain ⟨_, c1, c2, c3⟩ := R2.out.sc
      go_wp2_with fail
      refine (wrong_any 0 _ (R2.out.sc.put 0)).mono ?_; rintro e w3 ⟨rfl, hr3⟩
      have R3 := Lib.hid (R2.out.step hr3)
      clear hr3 R2 c1 c2 c3
      go_wp2
      refine leaves_cons (f := 55) (args := #[.pointer (some ⟨w.heap.size, 0, none⟩), .pointer (some ⟨w.heap.size + 1, 0, none⟩)]) (by simp) (by simp [go_sem]) ?_
      refine (houCl_stop 0 _ _ _ ad _ R3.out.n R3.out.nf R3.out.e R3.out.ef (by simp) (by rw [R3.out.below.cell (p := ⟨0, 0, none⟩) HEB.out]; exact HE.out)).mono ?_
      rintro e u' w'' ⟨rfl, rfl, rfl⟩
      obtain ⟨WF, eW, c1, c2, c3, c4, c5, c6⟩ := R3.out.fault 0 ad
      rw [eW, E1.out]
      have HF : Hid (ReadP w ad (.bad 0) (.returned (.tuple #[.int .i64 0, .iface 125 (.pointer (some ⟨w3.heap.size, 0, none⟩))])) WF) := Lib.hid ⟨w3.heap.size, c5, rfl, c3, c4, c6⟩
      clear eW c3 c4 c5 c6
      simp [Leaves, settle, results, Tryd.results13, go_sem, c1, c2]
      exact HF.out
    · have E1 : Hid (houO (seeF N L) N = (if seeF N L k1 = 104 then (match restO (seeF N L) N 109 115 (k1 + 1) with | .bad k => .bad k | .ok n k => .ok ((d * 3600000000 + n) * 15) k) else .bad k1)) := Lib.hid (by rw [E0.out]; exact if_neg h23)
      clear E0
      go_wp2_with fail
      by_cases hy : seeF N L k1 = 104
      · have E2 : Hid (houO (seeF N L) N = (match restO (seeF N L) N 109 115 (k1 + 1) with | .bad k => .bad k | .ok n k => .ok ((d * 3600000000 + n) * 15) k)) := Lib.hid (by rw [E1.out]; exact if_pos hy)
        refine (need_yes R2.out.ok k1 104 (by omega) _ R2.out.sc hy).mono ?_; rintro e w4 ⟨rfl, hlt4, hr4⟩
        have R4 := Lib.hid (R2.out.step hr4)
        clear hr4 R2 hy E1
        go_wp2_with fail
        have HS := rest_any (cap := cap) R4.out.ok 109 115 (by omega) (by omega) (k1 + 1) w4 R4.out.sc
        cases hr : restO (seeF N L) N 109 115 (k1 + 1) with
        | bad k5 =>
          rw [hr] at HS E2
          clear hr
          refine HS.mono ?_; rintro e w5 ⟨rfl, hr5⟩
          have R5 := Lib.hid (R4.out.step hr5)
          clear hr5 HS
          go_wp2
          refine leaves_cons (f := 55) (args := #[.pointer (some ⟨w.heap.size, 0, none⟩), .pointer (some ⟨w.heap.size + 1, 0, none⟩)]) (by simp) (by simp [go_sem]) ?_
          refine (houCl_stop k5 _ _ _ ad _ R5.out.n R5.out.nf R5.out.e R5.out.ef (by simp) (by rw [R5.out.below.cell (p := ⟨0, 0, none⟩) HEB.out]; exact HE.out)).mono ?_
          rintro e u' w'' ⟨rfl, rfl, rfl⟩
          obtain ⟨WF, eW, c1, c2, c3, c4, c5, c6⟩ := R5.out.fault k5 ad
          rw [eW, E2.out]
          have HF : Hid (ReadP w ad (.bad k5) (.returned (.tuple #[.int .i64 0, .iface 125 (.pointer (some ⟨w5.heap.size, 0, none⟩))])) WF) := Lib.hid ⟨w5.heap.size, c5, rfl, c3, c4, c6⟩
          clear eW c3 c4 c5 c6
          simp [Leaves, settle, results, Tryd.results13, go_sem, c1, c2]
          exact HF.out
        | ok n k5 =>
          rw [hr] at HS E2
          have hnb := restO_bd hr
          obtain ⟨hn0, hn1⟩ := hnb
          clear hr
          refine HS.mono ?_; rintro e w5 ⟨rfl, hr5⟩
          have R5 := Lib.hid (R4.out.step hr5)
          clear hr5 HS
          have c6 := R5.out.n
          have f6 := R5.out.nf
          have e6 := R5.out.e
          have g6 := R5.out.ef
          go_wp2
          refine leaves_cons (f := 55) (args := #[.pointer (some ⟨w.heap.size, 0, none⟩), .pointer (some ⟨w.heap.size + 1, 0, none⟩)]) (by simp) (by simp [go_sem]) ?_
          refine (houCl_idle ⟨w.heap.size, 0, none⟩ ⟨w.heap.size + 1, 0, none⟩ _).mono ?_
          rintro e u' w'' ⟨rfl, rfl, rfl⟩
          obtain ⟨WF, eW, c1, c2, c3⟩ := R5.out.fine ((d * 3600000000 + n) * 15)
          rw [eW, E2.out]
          have HF := Lib.hid c3
          clear eW c3 c6 f6 e6 g6
          simp [Leaves, settle, results, Tryd.results13, go_sem, c1, c2]
          exact ⟨rfl, HF.out⟩
      · have E2 : Hid (houO (seeF N L) N = .bad k1) := Lib.hid (by rw [E1.out]; exact if_neg hy)
        refine (need_no R2.out.ok k1 104 _ R2.out.sc hy).mono ?_; rintro e w4 ⟨rfl, hr4⟩
        have R4 := Lib.hid (R2.out.step hr4)
        clear hr4 R2 hy E1
        go_wp2
        refine leaves_cons (f := 55) (args := #[.pointer (some ⟨w.heap.size, 0, none⟩), .pointer (some ⟨w.heap.size + 1, 0, none⟩)]) (by simp) (by simp [go_sem]) ?_
        refine (houCl_stop k1 _ _ _ ad _ R4.out.n R4.out.nf R4.out.e R4.out.ef (by simp) (by rw [R4.out.below.cell (p := ⟨0, 0, none⟩) HEB.out]; exact HE.out)).mono ?_
        rintro e u' w'' ⟨rfl, rfl, rfl⟩
        obtain ⟨WF, eW, c1, c2, c3, c4, c5, c6⟩ := R4.out.fault k1 ad
        rw [eW, E2.out]
        have HF : Hid (ReadP w ad (.bad k1) (.returned (.tuple #[.int .i64 0, .iface 125 (.pointer (some ⟨w4.heap.size, 0, none⟩))])) WF) := Lib.hid ⟨w4.heap.size, c5, rfl, c3, c4, c6⟩
        clear eW c3 c4 c5 c6
        simp [Leaves, settle, results, Tryd.results13, go_sem, c1, c2]
        exact HF.out
end Go.Proofs.YtpkifhmnibepiaaDoor
