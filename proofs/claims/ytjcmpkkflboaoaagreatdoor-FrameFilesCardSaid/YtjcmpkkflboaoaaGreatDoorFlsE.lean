/- FrameFiles of package meridianlaw4: errors; bytes as strings. -/
import Derived.Test.YtjcmpkkflboaoaaGreatDoorPrt
import Derived.Test.YtjcmpkkflboaoaaGreatDoorArg
import Derived.Test.YtjcmpkkflboaoaaGreatDoorSmC
import Derived.Test.YtjcmpkkflboaoaaGreatDoorSmP
import Derived.Test.YtjcmpkkflboaoaaGreatDoorPicF
import Derived.Test.YtjcmpkkflboaoaaGreatDoorSmall
import Derived.Test.YtjcmpkkflboaoaaGreatDoorCoded4
namespace Go.Proofs.YtjcmpkkflboaoaaGreatDoor
open Go.RowKit

theorem picB_lt5 (W H : Int) : picB W H < 10 := by unfold picB; split <;> omega
theorem BSl.conv {w : World} {a : Option Addr} {l : List UInt8} (h : BSl w a l) (cap : Nat) : (convert 27 9 (.slice a l.length cap)).run Tryz.prog w = .ok (.string (bs l)) w := by
  rcases h with rfl | ⟨b, o, rfl, h⟩
  · exact run_convert_bytes_zero w 27 5 Tryz.underlying27 Tryz.underlying5 a cap 9 Tryz.underlying9
  · have := h.conv (k := 0) (n := l.length) (cap := cap) (by omega)
    rw [List.drop_zero, List.take_length] at this
    exact this
theorem FileV.bd {V K : Nat} {f : Nat → Int} {cs : List Crd} (v : FileV V K f cs) : (fileL V K f cs).length ≤ 200000 := by
  have h1 := v.len
  have h2 := Nat.mul_le_mul v.h2 v.w2
  have h3 := v.crd.1
  rw [h1]
  unfold dat0 blk
  generalize K * V = A at *
  omega
set_option maxRecDepth 10000 in
set_option maxHeartbeats 1000000 in
/-- The law, where nothing is asked. -/
theorem files_none (ad : Nat → Addr) {w : World} (hE : Sents w ad) (x : Option Addr) (s : Bool) (hS : ∀ W, Below w.heap.size w W → Calls Tryz.prog 6 #[.pointer x] W fun e w' => e = .returned (.bool s) ∧ W = w') (ca : Option Addr) (cn cc : Nat) (pa : Option Addr) (pn pc : Nat) (hcn : cn ≤ 9223372036854775807) (hpn : pn ≤ 9223372036854775807) (h : s = false ∨ 110 < cn ∨ 60 < pn) :
    Calls Tryz.prog 3 #[.pointer x, .slice ca cn cc, .slice pa pn pc] w fun e w' => e = .returned (.bool true) ∧ Below w.heap.size w w' := by
  have HF := Lib.hid (framed_any ad w (hE.errs _ (by decide)))
  have HS := Lib.hid hS
  clear hE hS
  by_cases c0 : s = false
  · subst c0
    go_enter Tryz.func3, Tryz.ntmps3
    go_wp2_with fail
    refine HF.out.mono ?_; rintro e w1 ⟨rfl, hb1⟩
    have HB := Lib.hid hb1
    go_wp2_with fail
    refine (HS.out w1 HB.out).mono ?_; rintro e w2 ⟨rfl, rfl⟩
    clear hb1 HF HS
    go_wp2
    go_ret
    exact ⟨rfl, HB.out⟩
  · obtain rfl : s = true := by cases s <;> simp_all
    by_cases c1 : 110 < cn
    · have d1 : decide ((110 : Int) < (cn : Int)) = true := decide_eq_true (by omega)
      go_enter Tryz.func3, Tryz.ntmps3
      go_wp2_with fail
      refine HF.out.mono ?_; rintro e w1 ⟨rfl, hb1⟩
      have HB := Lib.hid hb1
      go_wp2_with fail
      refine (HS.out w1 HB.out).mono ?_; rintro e w2 ⟨rfl, rfl⟩
      clear hb1 HF HS
      go_wp2
      go_ret
      exact ⟨rfl, HB.out⟩
    · have d1 : decide ((110 : Int) < (cn : Int)) = false := decide_eq_false (by omega)
      have d2 : decide ((60 : Int) < (pn : Int)) = true := decide_eq_true (by
        rcases h with h | h | h
        · cases h
        · omega
        · omega)
      go_enter Tryz.func3, Tryz.ntmps3
      go_wp2_with fail
      refine HF.out.mono ?_; rintro e w1 ⟨rfl, hb1⟩
      have HB := Lib.hid hb1
      go_wp2_with fail
      refine (HS.out w1 HB.out).mono ?_; rintro e w2 ⟨rfl, rfl⟩
      clear hb1 HF HS
      go_wp2
      go_ret
      exact ⟨rfl, HB.out⟩
set_option maxRecDepth 10000 in
set_option maxHeartbeats 1000000 in
/-- The law, where both have one and the same error. -/
theorem files_err (ad : Nat → Addr) {w : World} (hE : Sents w ad) (W H : Int) (f : Nat → Int) (b o : Nat) (a : Option Addr) (n cap : Nat) (hp : PicAt w b o W H a n cap f) (hS : ∀ W, Below w.heap.size w W → Calls Tryz.prog 6 #[.pointer (some ⟨b, o, none⟩)] W fun e w' => e = .returned (.bool true) ∧ W = w') (ca : Option Addr) (cn cc : Nat) (pa : Option Addr) (pn pc : Nat) (hcn : cn ≤ 110) (hpn : pn ≤ 60) (i : Nat) (hi : i < 10)
    (hW : ∀ w', Below w.heap.size w w' → Calls Tryz.prog 7 #[.agg #[.int .i64 W, .int .i64 H, .slice a n cap], .slice ca cn cc] w' fun e w'' => e = .returned (.tuple #[.slice none 0 0, errV ad i]) ∧ Below w'.heap.size w' w'')
    (hF : ∀ w', Below w.heap.size w w' → Calls Tryz.prog 8 #[.pointer (some ⟨b, o, none⟩), .slice ca cn cc] w' fun e w'' => e = .returned (.tuple #[.slice none 0 0, .int .i64 (i + 1 : Nat)]) ∧ Below w'.heap.size w' w'') :
    Calls Tryz.prog 3 #[.pointer (some ⟨b, o, none⟩), .slice ca cn cc, .slice pa pn pc] w fun e w' => e = .returned (.bool true) ∧ Below w.heap.size w w' := by
  have HFr := Lib.hid (framed_any ad w (hE.errs _ (by decide)))
  have HS := Lib.hid hS
  have HPi := Lib.hid hp
  have HW := Lib.hid hW
  have HFo := Lib.hid hF
  have HCo := Lib.hid (fun w' (hb : Below w.heap.size w w') => coded4_err ad i ((i + 1 : Nat) : Int) hi (by push_cast; rfl) w' (hE.below hb))
  have d1 : decide ((110 : Int) < (cn : Int)) = false := decide_eq_false (by omega)
  have d2 : decide ((60 : Int) < (pn : Int)) = false := decide_eq_false (by omega)
  have hcv : ∀ W', (convert 27 9 (.slice none 0 0)).run Tryz.prog W' = .ok (.string ⟨#[]⟩) W' := fun W' => run_convert_bytes_zero W' 27 5 Tryz.underlying27 Tryz.underlying5 none 0 9 Tryz.underlying9
  clear hE hS hp hW hF
  unfold errV at *
  generalize ad i = ai at *
  obtain ⟨ic, hic⟩ : ∃ ic : Int, ((i + 1 : Nat) : Int) = ic := ⟨_, rfl⟩
  rw [hic] at HFo HCo
  have hpos : decide ((0 : Int) < ic) = true := decide_eq_true (by omega)
  clear hic
  go_enter Tryz.func3, Tryz.ntmps3
  go_wp2_with fail
  refine HFr.out.mono ?_; rintro e w1 ⟨rfl, hb1⟩
  have HB1 := Lib.hid hb1
  go_wp2_with fail
  refine (HS.out w1 HB1.out).mono ?_; rintro e w2 ⟨rfl, rfl⟩
  obtain ⟨k0, k1, k2, _⟩ := HPi.out.below HB1.out
  clear hb1 HFr HS
  go_wp2_with fail
  refine (HW.out w1 HB1.out).mono ?_; rintro e w3 ⟨rfl, hb3⟩
  have HB3 := Lib.hid (below_step HB1.out hb3)
  clear hb3 HW k0 k1 k2
  go_wp2_with fail
  refine (HFo.out w3 HB3.out).mono ?_; rintro e w4 ⟨rfl, hb4⟩
  have HB4 := Lib.hid (below_step HB3.out hb4)
  clear hb4 HFo
  go_wp2_with fail
  refine (HCo.out w4 HB4.out).mono ?_; rintro e w5 ⟨rfl, hb5⟩
  have HB5 := Lib.hid (below_step HB4.out hb5)
  clear hb5 HCo
  go_wp2
  go_ret
  exact ⟨rfl, HB5.out⟩
end Go.Proofs.YtjcmpkkflboaoaaGreatDoor

namespace Go.Proofs.YtjcmpkkflboaoaaGreatDoor
open Go.RowKit

set_option maxRecDepth 10000 in
set_option maxHeartbeats 2000000 in
/-- The law, where a file is written. -/
theorem files_ok (ad : Nat → Addr) {w : World} (hE : Sents w ad) (hT : Pow10 w) (hN : Nums w) (V K : Nat) (f : Nat → Int) (b o : Nat) (a : Option Addr) (n cap : Nat) (hp : PicAt w b o V K a n cap f) (g : picG V K n f) (hnc : n ≤ cap) (hn7 : n ≤ 700) (hS : ∀ W, Below w.heap.size w W → Calls Tryz.prog 6 #[.pointer (some ⟨b, o, none⟩)] W fun e w' => e = .returned (.bool true) ∧ W = w') (cs : List Crd) (ca : Option Addr) (cc : Nat) (hc : CRow w ca cs) (hcc : cs.length ≤ cc) (hok : crdOk cs) (pf : Nat → Int) (pa : Option Addr) (pn pc : Nat) (hpp : IRow w pa pn pf) (hpi : ∀ j, j < pn → In64 (pf j)) (hpn : pn ≤ 60) :
    Calls Tryz.prog 3 #[.pointer (some ⟨b, o, none⟩), .slice ca cs.length cc, .slice pa pn pc] w fun e w' => e = .returned (.bool true) ∧ Below w.heap.size w w' := by
  have hnVK : n = V * K := by
    have := g.2.2.2.2.1
    have e : ((V * K : Nat) : Int) = (V : Int) * (K : Int) := by push_cast; rfl
    omega
  have v : FileV V K f cs := ⟨by have := g.1; omega, by have := g.2.1; omega, by have := g.2.2.1; omega, by have := g.2.2.2.1; omega, fun j hj => g.2.2.2.2.2 j (by rw [hnVK]; exact hj), hok⟩
  have hbd := v.bd
  have hc100 := hok.1
  have HFr := Lib.hid (framed_any ad w (hE.errs _ (by decide)))
  have HS := Lib.hid hS
  have HPi := Lib.hid hp
  have HE := Lib.hid (fun W' (hb : Below w.heap.size w W') (l : List Nat) (hl : ∀ i, i ∈ l → i < 10) => (hE.below hb).errs l hl)
  have HW := Lib.hid (fun W' (hb : Below w.heap.size w W') => write_ok ad V K f a n cap cs ca cc W' ((hE.below hb).errs _ (by decide)) (hT.below hb) (hp.below hb).2.2.2 g (hc.below hb) hcc hnc hok)
  have HFo := Lib.hid (fun W' (hb : Below w.heap.size w W') => fileOf_ok V K f b o a n cap cs ca cc W' (hp.below hb) g (hc.below hb) hok)
  have HFi := Lib.hid v
  have HRd := Lib.hid (fun W' (hb : Below w.heap.size w W') a' cap' (h : BSl W' a' (fileL V K f cs)) (hc : (fileL V K f cs).length ≤ cap') => read_any ad (fileL V K f cs) a' cap' W' ((hE.below hb).errs _ (by decide)) (hT.below hb) (hN.below hb) h hc (by omega))
  have HPt := Lib.hid (fun W' (hb : Below w.heap.size w W') a' cap' (h : BSl W' a' (fileL V K f cs)) (hc : (fileL V K f cs).length ≤ cap') => parts_any ad (fileL V K f cs) a' cap' pf pa pn pc W' ((hE.below hb).errs _ (by decide)) (hT.below hb) (hN.below hb) h hc (by omega) (hpp.below hb) (by omega) hpi)
  have HCr := Lib.hid (fun W' (hb : Below w.heap.size w W') => hc.below hb)
  -- what is read is the picture, and the cards
  have HOne : Hid (∀ w0 w' e, Below w.heap.size w w0 → RdPost (fileL V K f cs) w0 ad e w' → ∃ g a6 cc' capp, e = .returned (.tuple #[.agg #[.int .i64 V, .int .i64 K, .slice (some ⟨g, 0, none⟩) n capp], .slice (some a6) cs.length cc', .nilIface]) ∧ Below w0.heap.size w0 w' ∧
      (IRow w' (some ⟨g, 0, none⟩) n f ∧ w0.heap.size ≤ g) ∧ CRow w' (some a6) cs ∧ w0.heap.size ≤ a6.block) := Lib.hid (fun w0 w' e hb h => by
    obtain ⟨h1, h2⟩ := h
    rcases h1 with ⟨V', K', f', cs', g', np, capp, a6, cc', x1, x2, x3, x4, ⟨x5, x6⟩, x7, x8⟩ | ⟨hno, _⟩
    · obtain ⟨rfl, rfl, rfl, hf⟩ := file_one v x1 x2
      rw [← hnVK] at x4
      subst x4
      refine ⟨g', a6, cc', capp, x3, h2, ⟨?_, x6⟩, x7, x8⟩
      rcases x5 with h0 | ⟨bb, oo, e, hr⟩
      · exact Or.inl h0
      · exact Or.inr ⟨bb, oo, e, fun j hj => by rw [hr j hj, hf j (by rw [← hnVK]; exact hj)]⟩
    · exact absurd ⟨V, K, f, cs, v, rfl⟩ hno)
  have HOne2 : Hid (∀ w0 w' e, Below w.heap.size w w0 → PtPost (fileL V K f cs) w0 ad e w' → RdPost (fileL V K f cs) w0 ad e w') := Lib.hid (fun w0 w' e _ h => by
    unfold PtPost at h
    rw [if_neg (by omega)] at h
    exact h)
  have HSP := Lib.hid (fun W' (hb : Below w.heap.size w W') g' capp (hr : IRow W' (some ⟨g', 0, none⟩) n f) => samePicture_any V K f f b o (some ⟨g', 0, none⟩) a n capp cap W' (hp.below hb) hr (fun _ _ => rfl) (by omega))
  have HSC := Lib.hid (fun W' (hb : Below w.heap.size w W') a6 cc' (hr : CRow W' (some a6) cs) => sameCards_any cs (some a6) ca cc' cc W' hr (hc.below hb) (by omega))
  clear hE hT hN hS hp hc hpp hpi g hok v hnVK
  generalize hfl : fileL V K f cs = fl at *
  generalize hcsl : cs.length = cn at *
  have d1 : decide ((110 : Int) < (cn : Int)) = false := decide_eq_false (by omega)
  have d2 : decide ((60 : Int) < (pn : Int)) = false := decide_eq_false (by omega)
  clear hfl hcsl
  go_enter Tryz.func3, Tryz.ntmps3
  go_wp2_with fail
  refine HFr.out.mono ?_; rintro e w1 ⟨rfl, hb1⟩
  have HB1 := Lib.hid hb1
  go_wp2_with fail
  refine (HS.out w1 HB1.out).mono ?_; rintro e w2 ⟨rfl, rfl⟩
  obtain ⟨k0, k1, k2, _⟩ := HPi.out.below HB1.out
  clear hb1 HFr HS
  go_wp2_with fail
  refine (HW.out w1 HB1.out).mono ?_; rintro e w3 ⟨v3, rfl, hG3⟩
  obtain ⟨a3, cap3, rfl⟩ := hG3.form
  have HG3 := Lib.hid hG3
  have HB3 := Lib.hid (below_step HB1.out hG3.2.1)
  have hcap3 := hG3.capOf
  clear hG3 HW k0 k1 k2
  go_wp2_with fail
  refine (HFo.out w3 HB3.out).mono ?_; rintro e w4 ⟨v4, rfl, hG4⟩
  obtain ⟨a4, cap4, rfl⟩ := hG4.form
  have HG4 := Lib.hid hG4
  have HB4 := Lib.hid (below_step HB3.out hG4.2.1)
  clear hG4 HFo
  go_wp2_with fail
  refine (coded4_nil w4).mono ?_; rintro e w5 ⟨rfl, hb5⟩
  have HB5 := Lib.hid (below_step HB4.out hb5)
  have HS3 : Hid (∀ W', Below w3.heap.size w3 W' → BSl W' a3 fl) := Lib.hid (fun W' hb => HG3.out.bsl.below hb)
  have HB35 := Lib.hid (below_step HG4.out.2.1 hb5)
  have hc3 := (HS3.out w5 HB35.out).conv cap3
  have hc4 := (HG4.out.bsl.below hb5).conv cap4
  have HRd5 := Lib.hid (HRd.out w5 HB5.out a3 cap3 (HS3.out w5 HB35.out) hcap3)
  clear hb5 HG4 HRd
  generalize bs fl = sf at *
  go_wp2_with fail
  refine HRd5.out.mono ?_; rintro e w6 hpost
  obtain ⟨g6, a6, cc6, capp6, rfl, hb6, ⟨hI6, _⟩, hC6, _⟩ := HOne.out w5 w6 e HB5.out hpost
  have HB6 := Lib.hid (below_step HB5.out hb6)
  have HB36 := Lib.hid (below_step HB35.out hb6)
  have HI6 := Lib.hid (fun W' (hb : Below w6.heap.size w6 W') => hI6.below hb)
  have HC6 := Lib.hid (fun W' (hb : Below w6.heap.size w6 W') => hC6.below hb)
  have HBA := Lib.hid (fun o => (Below.refl w6.heap.size w6).alloc (Nat.le_refl _) o)
  clear hpost hb6 hI6 hC6 HRd5 hc3 hc4
  go_wp2_with fail
  have c0 : (w6.alloc (.cells #[.int .i64 (V : Int), .int .i64 (K : Int), .slice (some ⟨g6, 0, none⟩) n capp6] 33)).cell? ⟨w6.heap.size, 0, none⟩ = some (.int .i64 (V : Int)) := by simp
  have c1 : (w6.alloc (.cells #[.int .i64 (V : Int), .int .i64 (K : Int), .slice (some ⟨g6, 0, none⟩) n capp6] 33)).cell? ⟨w6.heap.size, 1, none⟩ = some (.int .i64 (K : Int)) := by simp
  have c2 : (w6.alloc (.cells #[.int .i64 (V : Int), .int .i64 (K : Int), .slice (some ⟨g6, 0, none⟩) n capp6] 33)).cell? ⟨w6.heap.size, 2, none⟩ = some (.slice (some ⟨g6, 0, none⟩) n capp6) := by simp
  have fz : ∀ k, (w6.alloc (.cells #[.int .i64 (V : Int), .int .i64 (K : Int), .slice (some ⟨g6, 0, none⟩) n capp6] 33)).frozen? ⟨w6.heap.size, k, none⟩ = false := by intro k; simp
  have hl7 := cell_lt c0
  have HB7 := Lib.hid (HBA.out (.cells #[.int .i64 (V : Int), .int .i64 (K : Int), .slice (some ⟨g6, 0, none⟩) n capp6] 33))
  generalize w6.alloc (.cells #[.int .i64 (V : Int), .int .i64 (K : Int), .slice (some ⟨g6, 0, none⟩) n capp6] 33) = W7 at *
  have HX7 : Hid (∀ W', Below W7.heap.size W7 W' → (W'.cell? ⟨w6.heap.size, 0, none⟩ = some (.int .i64 (V : Int)) ∧ W'.cell? ⟨w6.heap.size, 1, none⟩ = some (.int .i64 (K : Int)) ∧ W'.cell? ⟨w6.heap.size, 2, none⟩ = some (.slice (some ⟨g6, 0, none⟩) n capp6)) ∧ W'.frozen? ⟨w6.heap.size, 0, none⟩ = false ∧ W'.frozen? ⟨w6.heap.size, 1, none⟩ = false ∧ W'.frozen? ⟨w6.heap.size, 2, none⟩ = false) := Lib.hid (fun W' hb => ⟨⟨(hb.cell (p := ⟨w6.heap.size, 0, none⟩) hl7).trans c0, (hb.cell (p := ⟨w6.heap.size, 1, none⟩) hl7).trans c1, (hb.cell (p := ⟨w6.heap.size, 2, none⟩) hl7).trans c2⟩, (hb.frozen (p := ⟨w6.heap.size, 0, none⟩) hl7).trans (fz 0), (hb.frozen (p := ⟨w6.heap.size, 1, none⟩) hl7).trans (fz 1), (hb.frozen (p := ⟨w6.heap.size, 2, none⟩) hl7).trans (fz 2)⟩)
  clear c0 c1 c2 fz
  refine (HSP.out W7 (below_step HB6.out HB7.out) g6 capp6 (HI6.out W7 HB7.out)).mono ?_; rintro e w8 ⟨rfl, hb8⟩
  have HB8 := Lib.hid hb8
  clear hb8 HI6
  go_wp2_with fail
  refine (HSC.out w8 (below_step HB6.out (below_step HB7.out HB8.out)) a6 cc6 (HC6.out w8 (below_step HB7.out HB8.out))).mono ?_; rintro e w9 ⟨rfl, hb9⟩
  have HB9 := Lib.hid (below_step HB8.out hb9)
  have HB9w := Lib.hid (below_step HB6.out (below_step HB7.out HB9.out))
  have HPt9 := Lib.hid (HPt.out w9 HB9w.out a3 cap3 (HS3.out w9 (below_step HB36.out (below_step HB7.out HB9.out))) hcap3)
  clear hb9 HC6 HPt
  go_wp2_with fail
  refine HPt9.out.mono ?_; rintro e w10 hpost
  obtain ⟨g10, a10, cc10, capp10, rfl, hb10, ⟨hI10, hg10⟩, hC10, ha10⟩ := HOne.out w9 w10 e HB9w.out (HOne2.out w9 w10 e HB9w.out hpost)
  obtain ⟨⟨c0, c1, c2⟩, f0, f1, f2⟩ := HX7.out w10 (below_step HB9.out hb10)
  have hs9 := HB9.out.size
  have hne : ¬ g10 = w6.heap.size := by omega
  have hne2 : ¬ a10.block = w6.heap.size := by omega
  have HB10w := Lib.hid (below_step HB9w.out hb10)
  have hw6 : w.heap.size ≤ w6.heap.size := HB6.out.size
  have HB11 := Lib.hid (((HB10w.out.setCell (p := ⟨w6.heap.size, 0, none⟩) hw6 (.int .i64 (V : Int))).setCell (p := ⟨w6.heap.size, 1, none⟩) hw6 (.int .i64 (K : Int))).setCell (p := ⟨w6.heap.size, 2, none⟩) hw6 (.slice (some ⟨g10, 0, none⟩) n capp10))
  have HI11 := Lib.hid (((hI10.setG (k := 0) (v := .int .i64 (V : Int)) hne).setG (k := 1) (v := .int .i64 (K : Int)) hne).setG (k := 2) (v := .slice (some ⟨g10, 0, none⟩) n capp10) hne)
  have HC11 := Lib.hid (((hC10.setA (k := 0) (v := .int .i64 (V : Int)) hne2).setA (k := 1) (v := .int .i64 (K : Int)) hne2).setA (k := 2) (v := .slice (some ⟨g10, 0, none⟩) n capp10) hne2)
  have HSP11 := Lib.hid (HSP.out _ HB11.out g10 capp10 HI11.out)
  clear hpost hb10 hI10 hC10 HPt9 HSP HX7 HOne HOne2
  go_wp2_with fail
  refine HSP11.out.mono ?_; rintro e w12 ⟨rfl, hb12⟩
  have HB12 := Lib.hid (below_step HB11.out hb12)
  have HSC12 := Lib.hid (HSC.out w12 HB12.out a10 cc10 (HC11.out.below hb12))
  clear hb12 HSP11 HSC HI11 HC11
  go_wp2_with fail
  refine HSC12.out.mono ?_; rintro e w13 ⟨rfl, hb13⟩
  have HB13 := Lib.hid (below_step HB12.out hb13)
  clear hb13 HSC12
  go_wp2
  go_ret
  exact ⟨rfl, HB13.out⟩
theorem frameFiles_any (ad : Nat → Addr) {w : World} (x : Option Addr) (hx : PicP2 w x) (cs : List Crd) (ca : Option Addr) (cc : Nat) (hcc : cs.length ≤ cc) (hccm : cc ≤ 9223372036854775807) (hc : CRow w ca cs) (pf : Nat → Int) (pa : Option Addr) (pn pc : Nat) (hpn : pn ≤ 9223372036854775807) (hpp : IRow w pa pn pf) (hpi : ∀ j, j < pn → In64 (pf j)) (hE : Sents w ad) (hT : Pow10 w) (hN : Nums w) :
    Calls Tryz.prog 3 #[.pointer x, .slice ca cs.length cc, .slice pa pn pc] w fun e w' => e = .returned (.bool true) ∧ Below w.heap.size w w' := by
  obtain ⟨s, hs, hs2⟩ := small_is hx.one
  by_cases h0 : s = false ∨ 110 < cs.length ∨ 60 < pn
  · exact files_none ad hE x s hs ca cs.length cc pa pn pc (by omega) hpn h0
  have hst : s = true := by
    cases s
    · exact absurd (Or.inl rfl) h0
    · rfl
  subst hst
  obtain ⟨b', o', W', H', a', n', cap', f', e', hn', _, _, hp'⟩ := hs2 rfl
  rcases hx with rfl | ⟨b, o, W, H, a, n, cap, f, rfl, hnc, hcm, iw, ih, hp⟩
  · cases e'
  obtain ⟨rfl, rfl⟩ : b = b' ∧ o = o' := by cases e'; exact ⟨rfl, rfl⟩
  have hnn : n = n' := by
    have h1 := hp.2.2.1
    have h2 := hp'.2.2.1
    rw [h1] at h2
    cases h2
    rfl
  have hn7 : n ≤ 700 := by omega
  by_cases g : picG W H n f
  · have hW : ((W.toNat : Nat) : Int) = W := by have := g.1; omega
    have hH : ((H.toNat : Nat) : Int) = H := by have := g.2.2.1; omega
    by_cases hok : crdOk cs
    · rw [← hW, ← hH] at hp g
      exact files_ok ad hE hT hN W.toNat H.toNat f b o a n cap hp g hnc hn7 hs cs ca cc hc hcc hok pf pa pn pc hpp hpi (by omega)
    · have hce : 0 < crdE cs ∧ crdE cs - 1 < 10 := by
        by_cases c1 : 100 < cs.length
        · rw [crdE_big c1]; omega
        · by_cases c2 : nmsOk cs
          · by_cases c3 : vlsOk cs
            · exact absurd ⟨by omega, c2, c3⟩ hok
            · rw [crdE_vl c1 c2 c3]; omega
          · rw [crdE_nm c1 c2]; omega
      refine files_err ad hE W H f b o a n cap hp hs ca cs.length cc pa pn pc (by omega) (by omega) (crdE cs - 1) hce.2 (fun w' hb => ?_) (fun w' hb => ?_)
      · by_cases c1 : 100 < cs.length
        · have := write_bound ad W H f a n cap ca cs.length cc w' ((hE.below hb).errs _ (by decide)) (hp.below hb).2.2.2 g c1 (by omega)
          rw [crdE_big c1]
          exact this
        · have hp2 := hp
          have g2 := g
          rw [← hW, ← hH] at hp2 g2
          have := write_crdE ad W.toNat H.toNat f a n cap cs ca cc w' ((hE.below hb).errs _ (by decide)) (hT.below hb) (hp2.below hb).2.2.2 g2 (hc.below hb) hcc (by omega) hok
          rw [hW, hH] at this
          exact this
      · have := fileOf_crdE W H f b o a n cap cs ca cc w' (hp.below hb) g (hc.below hb) (by omega) hce.1
        rw [show crdE cs - 1 + 1 = crdE cs by omega]
        exact this
  · exact files_err ad hE W H f b o a n cap hp hs ca cs.length cc pa pn pc (by omega) (by omega) (picB W H) (picB_lt5 W H) (fun w' hb => write_picE ad W H f a n cap ca cs.length cc w' ((hE.below hb).errs _ (by decide)) (hp.below hb).2.2.2 (by omega) g) (fun w' hb => fileOf_picE W H f b o a n cap ca cs.length cc w' (hp.below hb) (by omega) g)
end Go.Proofs.YtjcmpkkflboaoaaGreatDoor
