/- PictureOf's pixels, in its order; what it answers: plain laws. -/
import Derived.Test.YtjcmpkkflboaoaaGreatDoorPix
import Derived.Deep.OwnRows
import Derived.Test.YtjcmpkkflboaoaaGreatDoorPrt
import Derived.Test.YtjcmpkkflboaoaaGreatDoorArg
import Derived.Test.YtjcmpkkflboaoaaGreatDoorSmC
import Derived.Test.YtjcmpkkflboaoaaGreatDoorSmP
import Derived.Test.YtjcmpkkflboaoaaGreatDoorPicF
import Derived.Test.YtjcmpkkflboaoaaGreatDoorCoded4
import Derived.Test.YtjcmpkkflboaoaaGreatDoorFilP
import Derived.Test.YtjcmpkkflboaoaaGreatDoorNam
import Derived.Test.YtjcmpkkflboaoaaGreatDoorFilO
import Derived.Test.YtjcmpkkflboaoaaGreatDoorApp
import Derived.Deep.CutBlock
import Derived.Deep.DeepCutAuto
namespace Go.Proofs.YtjcmpkkflboaoaaGreatDoor
open Go.RowKit

/-- Where a pixel stands in the file's order. -/
def rkF (V K j : Nat) : Nat := (K - 1 - j / V) * V + j % V
def FillR (b : List UInt8) (d V K k : Nat) (M : Nat → Nat) : Prop := ∀ j, j < K * V → M j = if rkF V K j < k then pxU b (pxP d V K j) else 0
theorem FillR.zero (b : List UInt8) (d V K : Nat) : FillR b d V K 0 (fun _ => 0) := fun j hj => by rw [if_neg (by omega)]
theorem rk_lt {V K j : Nat} (hj : j < K * V) : rkF V K j < K * V := by
  have hV : 0 < V := by
    rcases Nat.eq_zero_or_pos V with rfl | h
    · rw [Nat.mul_zero] at hj; omega
    · exact h
  have h1 : j / V < K := (Nat.div_lt_iff_lt_mul hV).2 hj
  have h2 := Nat.mod_lt j hV
  have h0 : ∀ y, y < K → K - 1 - y + 1 ≤ K := fun y h => by omega
  have h3 := Nat.mul_le_mul_right V (h0 _ h1)
  rw [Nat.add_mul, Nat.one_mul] at h3
  unfold rkF
  omega
theorem rk_spot {V K k : Nat} (hk : k < K * V) : (K - 1 - k / V) * V + k % V < K * V ∧ rkF V K ((K - 1 - k / V) * V + k % V) = k ∧ ∀ j, j < K * V → rkF V K j = k → j = (K - 1 - k / V) * V + k % V := by
  have hV : 0 < V := by
    rcases Nat.eq_zero_or_pos V with rfl | h
    · rw [Nat.mul_zero] at hk; omega
    · exact h
  have h1 : k / V < K := (Nat.div_lt_iff_lt_mul hV).2 hk
  have h2 := Nat.mod_lt k hV
  have h0 : ∀ y, y < K → K - 1 - (K - 1 - y) = y := fun y h => by omega
  have dm : ∀ y x, x < V → (y * V + x) / V = y ∧ (y * V + x) % V = x := fun y x hx => by
    refine ⟨?_, ?_⟩
    · rw [Nat.mul_comm y V, Nat.mul_add_div hV, Nat.div_eq_of_lt hx, Nat.add_zero]
    · rw [Nat.mul_comm y V, Nat.mul_add_mod, Nat.mod_eq_of_lt hx]
  refine ⟨rk_lt hk, ?_, fun j hj e => ?_⟩
  · unfold rkF
    rw [(dm _ _ h2).1, (dm _ _ h2).2, h0 _ h1, Nat.mul_comm]
    exact Nat.div_add_mod k V
  · have h3 : j / V < K := (Nat.div_lt_iff_lt_mul hV).2 hj
    have h4 := Nat.mod_lt j hV
    unfold rkF at e
    have e1 := (dm (K - 1 - j / V) (j % V) h4).1
    have e2 := (dm (K - 1 - j / V) (j % V) h4).2
    rw [e] at e1 e2
    rw [e1, e2, h0 _ h3, Nat.mul_comm]
    exact (Nat.div_add_mod j V).symm
theorem FillR.step {b : List UInt8} {d V K k : Nat} {M : Nat → Nat} (h : FillR b d V K k M) (hk : k < K * V) : FillR b d V K (k + 1) (putF M ((K - 1 - k / V) * V + k % V) (pxU b (d + 2 * k))) := fun j hj => by
  obtain ⟨_, s2, s3⟩ := rk_spot hk
  by_cases c : j = (K - 1 - k / V) * V + k % V
  · subst c
    rw [putF_same, if_pos (by omega)]
    show pxU b (d + 2 * k) = pxU b (d + 2 * rkF V K ((K - 1 - k / V) * V + k % V))
    rw [s2]
  · rw [putF_other _ _ c, h j hj]
    by_cases c2 : rkF V K j < k
    · rw [if_pos c2, if_pos (by omega)]
    · have : rkF V K j ≠ k := fun e => c (s3 j hj e)
      rw [if_neg c2, if_neg (by omega)]
theorem FillR.all {b : List UInt8} {d V K : Nat} {M : Nat → Nat} (h : FillR b d V K (K * V) M) : ∀ j, j < K * V → (M j : Int) = pxF b d V K j := fun j hj => by
  rw [h j hj, if_pos (rk_lt hj), pxF_eq]
theorem pixel_valR {n0 n1 : Nat} (h0 : n0 < 256) (h1 : n1 < 256) : IntKind.i64.wrap ((IntKind.i64.wrap (IntKind.i64.wrap ((n0 : Int) * 256) + (n1 : Int)) + 32768).tmod 65536) = (((n0 * 256 + n1 + 32768) % 65536 : Nat) : Int) := by
  have e1 : IntKind.i64.wrap ((n0 : Int) * 256) = (n0 : Int) * 256 := IntWalk.i64_in _ (by omega)
  have e2 : IntKind.i64.wrap ((n0 : Int) * 256 + (n1 : Int)) = (n0 : Int) * 256 + (n1 : Int) := IntWalk.i64_in _ (by omega)
  rw [e1, e2, Int.tmod_eq_emod_of_nonneg (by omega)]
  rw [IntWalk.i64_in _ (by omega)]
  omega
theorem crdE_no {cs : List Crd} (h : ¬ crdOk cs) : 0 < crdE cs := by
  by_cases c1 : 100 < cs.length
  · rw [crdE_big c1]; decide
  · by_cases c2 : nmsOk cs
    · by_cases c3 : vlsOk cs
      · exact absurd ⟨by omega, c2, c3⟩ h
      · rw [crdE_vl c1 c2 c3]; decide
    · rw [crdE_nm c1 c2]; decide
theorem crdE_lt (cs : List Crd) : crdE cs < 100 := by unfold crdE; split <;> (try split) <;> (try split) <;> omega
theorem picB_lt6 (W H : Int) : picB W H + 1 < 100 := by unfold picB; split <;> omega
/-- A world that agrees on the blocks from B on. -/
def Agr (B : Nat) (w' W' : World) : Prop := ∀ b o, B ≤ b → b < w'.heap.size → W'.cell? ⟨b, o, none⟩ = w'.cell? ⟨b, o, none⟩
theorem Agr.refl (B : Nat) (w : World) : Agr B w w := fun _ _ _ _ => rfl
theorem pic_agr {B p g np c : Nat} {V K : Int} {f : Nat → Int} {w' W' : World} (h : PicAt w' p 0 V K (some ⟨g, 0, none⟩) np c f) (hp : B ≤ p) (hg : B ≤ g) (hW : Agr B w' W') : PicAt W' p 0 V K (some ⟨g, 0, none⟩) np c f := by
  refine ⟨(hW _ _ hp (cell_lt h.1)).trans h.1, (hW _ _ hp (cell_lt h.1)).trans h.2.1, (hW _ _ hp (cell_lt h.1)).trans h.2.2.1, ?_⟩
  rcases h.2.2.2 with h0 | ⟨bb, oo, e, hr⟩
  · exact Or.inl h0
  · cases e
    exact Or.inr ⟨g, 0, rfl, fun j hj => (hW _ _ hg (cell_lt (hr j hj))).trans (hr j hj)⟩
theorem pic_agr0 {B p : Nat} {w' W' : World} (h : PicAt w' p 0 0 0 none 0 0 (fun _ => 0)) (hp : B ≤ p) (hW : Agr B w' W') : PicAt W' p 0 0 0 none 0 0 (fun _ => 0) :=
  ⟨(hW _ _ hp (cell_lt h.1)).trans h.1, (hW _ _ hp (cell_lt h.1)).trans h.2.1, (hW _ _ hp (cell_lt h.1)).trans h.2.2.1, Or.inl rfl⟩
theorem row_agr {B : Nat} {a : Option Addr} {cs : List Crd} {w' W' : World} (h : CRow w' a cs) (ha : ∀ x, a = some x → B ≤ x.block) (hW : Agr B w' W') : CRow W' a cs := by
  rcases h with h0 | ⟨bb, oo, e, hr⟩
  · exact Or.inl h0
  · refine Or.inr ⟨bb, oo, e, fun i hi => ?_⟩
    obtain ⟨⟨r1, r2⟩, r3⟩ := hr i hi
    have hb := ha _ e
    exact ⟨⟨(hW _ _ hb (cell_lt r1)).trans r1, (hW _ _ hb (cell_lt r1)).trans r2⟩, r3⟩
/-- What PictureOf answers. -/
def PoPost (b : List UInt8) (w0 : World) (e : Ending) (w' : World) : Prop :=
  ((∃ V K f cs p ga np capp a6 cc, FileV V K f cs ∧ b = fileL V K f cs ∧ e = .returned (.tuple #[.pointer (some ⟨p, 0, none⟩), .slice a6 cs.length cc, .int .i64 0]) ∧ np = V * K ∧ ∀ W', Agr w0.heap.size w' W' → PicAt W' p 0 (V : Nat) (K : Nat) ga np capp f ∧ CRow W' a6 cs) ∨
    (¬ IsFile b ∧ ∃ p, e = .returned (.tuple #[.pointer (some ⟨p, 0, none⟩), .slice none 0 0, .int .i64 8]) ∧ ∀ W', Agr w0.heap.size w' W' → PicAt W' p 0 0 0 none 0 0 (fun _ => 0))) ∧ Below w0.heap.size w0 w'
theorem PoPost.no {b : List UInt8} {w0 w' : World} {p : Nat} (h : ¬ IsFile b) (hp : PicAt w' p 0 0 0 none 0 0 (fun _ => 0)) (hpw : w0.heap.size ≤ p) (hb : Below w0.heap.size w0 w') : PoPost b w0 (.returned (.tuple #[.pointer (some ⟨p, 0, none⟩), .slice none 0 0, .int .i64 8])) w' := ⟨Or.inr ⟨h, p, rfl, fun _ hW => pic_agr0 hp hpw hW⟩, hb⟩
theorem nums_got {b : List UInt8} {q W H : Nat} (h6 : 6 ≤ q) (hE : (cardAt b q).1 = [69, 78, 68]) (hN : ∀ p, p < q → (cardAt b p).1 ≠ [69, 78, 68]) (hW : ∀ V, V ≤ 256 → (cardAt b 3).2 = Lib.decDigits V → W = V) (hH : ∀ V, V ≤ 256 → (cardAt b 4).2 = Lib.decDigits V → H = V) : Got b q W H := ⟨h6, Or.inr ⟨hE, hN⟩, hW, hH⟩
theorem outC_row (w : World) (n : Nat) : OutC (w.alloc (.cells (madeCells #[.int .i64 0] n) 3)) w.heap.size n (fun _ => 0) := fun j hj => by
  have h := World.rowIs_made w (.int .i64 0) n 3
  exact ⟨h.cell hj, h.frozen j⟩
theorem BSl.cnv {w : World} {a : Option Addr} {l : List UInt8} (h : BSl w a l) (cap : Nat) : (convert 27 9 (.slice a l.length cap)).run Tryz.prog w = .ok (.string (bs l)) w := by
  rcases h with rfl | ⟨b, o, rfl, h⟩
  · exact run_convert_bytes_zero w 27 5 Tryz.underlying27 Tryz.underlying5 a cap 9 Tryz.underlying9
  · have := h.conv (k := 0) (n := l.length) (cap := cap) (by omega)
    rw [List.drop_zero, List.take_length] at this
    exact this
end Go.Proofs.YtjcmpkkflboaoaaGreatDoor

namespace Go.Proofs.YtjcmpkkflboaoaaGreatDoor
open Go.RowKit

/-- What Read and Parts answer. -/
def AnsR (w0 : World) (V K np : Nat) (f : Nat → Int) (cs : List Crd) (ev : Value) (e : Ending) (w' : World) : Prop :=
  (∃ ga capp a6 cc, e = .returned (.tuple #[.agg #[.int .i64 (V : Nat), .int .i64 (K : Nat), .slice ga np capp], .slice a6 cs.length cc, ev]) ∧
    ∀ W', Agr w0.heap.size w' W' → IRow W' ga np f ∧ CRow W' a6 cs) ∧ Below w0.heap.size w0 w'
/-- What PictureOf answers. -/
def AnsP (w0 : World) (V K np : Nat) (f : Nat → Int) (cs : List Crd) (code : Int) (e : Ending) (w' : World) : Prop :=
  (∃ p ga capp a6 cc, e = .returned (.tuple #[.pointer (some ⟨p, 0, none⟩), .slice a6 cs.length cc, .int .i64 code]) ∧ ∀ W', Agr w0.heap.size w' W' → PicAt W' p 0 (V : Nat) (K : Nat) ga np capp f ∧ CRow W' a6 cs) ∧ Below w0.heap.size w0 w'
theorem ansR_none {w0 w' : World} {ev : Value} (hb : Below w0.heap.size w0 w') : AnsR w0 0 0 0 (fun _ => 0) [] ev (.returned (.tuple #[.agg #[.int .i64 0, .int .i64 0, .slice none 0 0], .slice none 0 0, ev])) w' :=
  ⟨⟨none, 0, none, 0, rfl, fun _ _ => ⟨Or.inl rfl, Or.inl rfl⟩⟩, hb⟩
theorem RdPost.ansNo {b : List UInt8} {w0 w' : World} {ad : Nat → Addr} {e : Ending} (h : RdPost b w0 ad e w') (hn : ¬ IsFile b) : AnsR w0 0 0 0 (fun _ => 0) [] (errV ad 7) e w' := by
  obtain ⟨h1, h2⟩ := h
  rcases h1 with ⟨V, K, f, cs, _, _, _, _, _, v, e1, _⟩ | ⟨_, rfl⟩
  · exact absurd ⟨V, K, f, cs, v, e1⟩ hn
  · exact ansR_none h2
theorem RdPost.ansOk {b : List UInt8} {w0 w' : World} {ad : Nat → Addr} {e : Ending} (h : RdPost b w0 ad e w') {V K : Nat} {f : Nat → Int} {cs : List Crd} (v : FileV V K f cs) (hb : b = fileL V K f cs) : AnsR w0 V K (V * K) f cs .nilIface e w' := by
  obtain ⟨h1, h2⟩ := h
  refine ⟨?_, h2⟩
  rcases h1 with ⟨V', K', f', cs', g, np, capp, a6, cc, v', e1, rfl, e4, ⟨hI, hg⟩, hC, ha⟩ | ⟨hn, _⟩
  · obtain ⟨rfl, rfl, rfl, hf⟩ := file_one v v' (by rw [← hb, ← e1])
    subst e4
    refine ⟨some ⟨g, 0, none⟩, capp, some a6, cc, rfl, fun W' hW => ⟨?_, ?_⟩⟩
    · rcases hI with h0 | ⟨bb, oo, e, hr⟩
      · exact Or.inl h0
      · cases e
        exact Or.inr ⟨g, 0, rfl, fun j hj => by rw [hW _ _ hg (cell_lt (hr j hj)), hr j hj, hf j hj]⟩
    · rcases hC with h0 | ⟨bb, oo, e, hr⟩
      · exact Or.inl h0
      · cases e
        refine Or.inr ⟨bb, oo, rfl, fun i hi => ?_⟩
        obtain ⟨⟨r1, r2⟩, r3⟩ := hr i hi
        exact ⟨⟨by rw [hW _ _ ha (cell_lt r1)]; exact r1, by rw [hW _ _ ha (cell_lt r1)]; exact r2⟩, r3⟩
  · exact absurd ⟨V, K, f, cs, v, hb⟩ hn
theorem PoPost.ansNo {b : List UInt8} {w0 w' : World} {e : Ending} (h : PoPost b w0 e w') (hn : ¬ IsFile b) : AnsP w0 0 0 0 (fun _ => 0) [] 8 e w' := by
  obtain ⟨h1, h2⟩ := h
  rcases h1 with ⟨V, K, f, cs, _, _, _, _, _, _, v, e1, _⟩ | ⟨_, p, rfl, hp⟩
  · exact absurd ⟨V, K, f, cs, v, e1⟩ hn
  · exact ⟨⟨p, none, 0, none, 0, rfl, fun W' hW => ⟨hp W' hW, Or.inl rfl⟩⟩, h2⟩
theorem PoPost.ansOk {b : List UInt8} {w0 w' : World} {e : Ending} (h : PoPost b w0 e w') {V K : Nat} {f : Nat → Int} {cs : List Crd} (v : FileV V K f cs) (hb : b = fileL V K f cs) : AnsP w0 V K (V * K) f cs 0 e w' := by
  obtain ⟨h1, h2⟩ := h
  refine ⟨?_, h2⟩
  rcases h1 with ⟨V', K', f', cs', p, ga, np, capp, a6, cc, v', e1, rfl, e4, hPC⟩ | ⟨hn, _⟩
  · obtain ⟨rfl, rfl, rfl, hf⟩ := file_one v v' (by rw [← hb, ← e1])
    subst e4
    refine ⟨p, ga, capp, a6, cc, rfl, fun W' hW => ?_⟩
    obtain ⟨hP, hC⟩ := hPC W' hW
    refine ⟨⟨hP.1, hP.2.1, hP.2.2.1, ?_⟩, hC⟩
    rcases hP.2.2.2 with h0 | ⟨bb, oo, e, hr⟩
    · exact Or.inl h0
    · exact Or.inr ⟨bb, oo, e, fun j hj => by rw [hr j hj, hf j hj]⟩
  · exact absurd ⟨V, K, f, cs, v, hb⟩ hn
end Go.Proofs.YtjcmpkkflboaoaaGreatDoor

namespace Go.Proofs.YtjcmpkkflboaoaaGreatDoor
open Go.RowKit

set_option maxRecDepth 10000 in
set_option maxHeartbeats 1000000 in
/-- The law, where nothing is asked. -/
theorem reads_none (ad : Nat → Addr) {w : World} (hE : Sents w ad) (a : Option Addr) (L cap : Nat) (pa : Option Addr) (pn pc : Nat) (hL : L ≤ 9223372036854775807) (hpn : pn ≤ 9223372036854775807) (h : (20000 < L ∧ L ≤ 400000) ∨ 400010 < L ∨ 60 < pn) :
    Calls Tryz.prog 4 #[.slice a L cap, .slice pa pn pc] w fun e w' => e = .returned (.bool true) ∧ Below w.heap.size w w' := by
  have HFr := Lib.hid (framed_any ad w (hE.errs _ (by decide)))
  clear hE
  go_enter Tryz.func4, Tryz.ntmps4
  go_wp2_with fail
  refine HFr.out.mono ?_; rintro e w1 ⟨rfl, hb1⟩
  have HB1 := Lib.hid hb1
  clear hb1 HFr
  by_cases g1 : 20000 < L ∧ L ≤ 400000
  · have d1 : decide ((20000 : Int) < (L : Int)) = true := decide_eq_true (by omega)
    have d2 : decide ((L : Int) ≤ 400000) = true := decide_eq_true (by omega)
    clear h
    go_wp2
    go_ret
    exact ⟨rfl, HB1.out⟩
  · by_cases c1 : 20000 < L
    · have d1 : decide ((20000 : Int) < (L : Int)) = true := decide_eq_true (by omega)
      have d2 : decide ((L : Int) ≤ 400000) = false := decide_eq_false (by omega)
      by_cases c2 : 400010 < L
      · have d3 : decide ((400010 : Int) < (L : Int)) = true := decide_eq_true (by omega)
        clear h g1
        go_wp2
        go_ret
        exact ⟨rfl, HB1.out⟩
      · have d3 : decide ((400010 : Int) < (L : Int)) = false := decide_eq_false (by omega)
        have d4 : decide ((60 : Int) < (pn : Int)) = true := decide_eq_true (by omega)
        clear h g1
        go_wp2
        go_ret
        exact ⟨rfl, HB1.out⟩
    · have d1 : decide ((20000 : Int) < (L : Int)) = false := decide_eq_false (by omega)
      have d3 : decide ((400010 : Int) < (L : Int)) = false := decide_eq_false (by omega)
      have d4 : decide ((60 : Int) < (pn : Int)) = true := decide_eq_true (by omega)
      clear h g1
      go_wp2
      go_ret
      exact ⟨rfl, HB1.out⟩
set_option maxRecDepth 10000 in
set_option maxHeartbeats 2000000 in
/-- The law, where all is asked. -/
theorem reads_core (ad : Nat → Addr) {w : World} (hE : Sents w ad) (a : Option Addr) (L cap : Nat) (V K np : Nat) (f : Nat → Int) (cs : List Crd) (ev : Value) (code : Int) (hnp : np ≤ 1000000) (hcs : cs.length ≤ 1000000) (pa : Option Addr) (pn pc : Nat) (hl : L ≤ 20000 ∨ (400000 < L ∧ L ≤ 400010)) (hp60 : pn ≤ 60)
    (hRd : ∀ W', Below w.heap.size w W' → Calls Tryz.prog 10 #[.slice a L cap] W' (AnsR W' V K np f cs ev))
    (hPo : ∀ W', Below w.heap.size w W' → Calls Tryz.prog 14 #[.slice a L cap] W' (AnsP W' V K np f cs code))
    (hPt : ∀ W', Below w.heap.size w W' → Calls Tryz.prog 13 #[.slice a L cap, .slice pa pn pc] W' (AnsR W' V K np f cs ev))
    (hCo : ∀ W', Below w.heap.size w W' → Calls Tryz.prog 9 #[ev, .int .i64 code] W' fun e w' => e = .returned (.bool true) ∧ Below W'.heap.size W' w') :
    Calls Tryz.prog 4 #[.slice a L cap, .slice pa pn pc] w fun e w' => e = .returned (.bool true) ∧ Below w.heap.size w w' := by
  have HFr := Lib.hid (framed_any ad w (hE.errs _ (by decide)))
  have HRd := Lib.hid hRd
  have HPo := Lib.hid hPo
  have HPt := Lib.hid hPt
  have HCo := Lib.hid hCo
  have HSP : Hid (∀ W' p ga capp gb capq, PicAt W' p 0 (V : Nat) (K : Nat) gb np capq f → IRow W' ga np f → Calls Tryz.prog 11 #[.agg #[.int .i64 (V : Nat), .int .i64 (K : Nat), .slice ga np capp], .pointer (some ⟨p, 0, none⟩)] W' fun e w' => e = .returned (.bool true) ∧ Below W'.heap.size W' w') := Lib.hid (fun W' p ga capp gb capq hp hr => samePicture_any V K f f p 0 ga gb np capp capq W' hp hr (fun _ _ => rfl) hnp)
  have HSC : Hid (∀ W' a6 a7 cc cd, CRow W' a6 cs → CRow W' a7 cs → Calls Tryz.prog 12 #[.slice a6 cs.length cc, .slice a7 cs.length cd] W' fun e w' => e = .returned (.bool true) ∧ Below W'.heap.size W' w') := Lib.hid (fun W' a6 a7 cc cd h6 h7 => sameCards_any cs a6 a7 cc cd W' h6 h7 hcs)
  have d4 : decide ((60 : Int) < (pn : Int)) = false := decide_eq_false (by omega)
  have d3 : decide ((400010 : Int) < (L : Int)) = false := decide_eq_false (by omega)
  have d12 : decide ((20000 : Int) < (L : Int)) = false ∨ (decide ((20000 : Int) < (L : Int)) = true ∧ decide ((L : Int) ≤ 400000) = false) := by
    by_cases c : 20000 < L
    · exact Or.inr ⟨decide_eq_true (by omega), decide_eq_false (by omega)⟩
    · exact Or.inl (decide_eq_false (by omega))
  clear hE hRd hPo hPt hCo
  unfold AnsR AnsP at *
  generalize hcsl : cs.length = cn at *
  clear hcsl
  go_enter Tryz.func4, Tryz.ntmps4
  go_wp2_with fail
  refine HFr.out.mono ?_; rintro e w1 ⟨rfl, hb1⟩
  have HB1 := Lib.hid hb1
  have HRd1 := Lib.hid (HRd.out w1 HB1.out)
  clear hb1 HFr HRd
  rcases d12 with d1 | ⟨d1, d2⟩
  all_goals
    go_wp2_with fail
    refine HRd1.out.mono ?_; rintro e w2 ⟨⟨ga, capp, a6, cc, rfl, hrow⟩, hb2⟩
    have HRow : Hid (∀ W', Below w2.heap.size w2 W' → IRow W' ga np f ∧ CRow W' a6 cs) := Lib.hid (fun W' hb => ⟨(hrow w2 (Agr.refl _ _)).1.below hb, (hrow w2 (Agr.refl _ _)).2.below hb⟩)
    have HB2 := Lib.hid (below_step HB1.out hb2)
    clear hrow hb2 HRd1
    go_wp2_with fail
    have HBA := Lib.hid ((Below.refl w2.heap.size w2).alloc (Nat.le_refl _) (.cells #[.int .i64 (V : Int), .int .i64 (K : Int), .slice ga np capp] 33))
    have c0 : (w2.alloc (.cells #[.int .i64 (V : Int), .int .i64 (K : Int), .slice ga np capp] 33)).cell? ⟨w2.heap.size, 0, none⟩ = some (.int .i64 (V : Int)) := by simp
    have c1 : (w2.alloc (.cells #[.int .i64 (V : Int), .int .i64 (K : Int), .slice ga np capp] 33)).cell? ⟨w2.heap.size, 1, none⟩ = some (.int .i64 (K : Int)) := by simp
    have c2 : (w2.alloc (.cells #[.int .i64 (V : Int), .int .i64 (K : Int), .slice ga np capp] 33)).cell? ⟨w2.heap.size, 2, none⟩ = some (.slice ga np capp) := by simp
    have fz : ∀ k, (w2.alloc (.cells #[.int .i64 (V : Int), .int .i64 (K : Int), .slice ga np capp] 33)).frozen? ⟨w2.heap.size, k, none⟩ = false := by intro k; simp
    have hl3 := cell_lt c0
    generalize w2.alloc (.cells #[.int .i64 (V : Int), .int .i64 (K : Int), .slice ga np capp] 33) = W3 at *
    have HX : Hid (∀ W', Below W3.heap.size W3 W' → (W'.cell? ⟨w2.heap.size, 0, none⟩ = some (.int .i64 (V : Int)) ∧ W'.cell? ⟨w2.heap.size, 1, none⟩ = some (.int .i64 (K : Int)) ∧ W'.cell? ⟨w2.heap.size, 2, none⟩ = some (.slice ga np capp)) ∧ W'.frozen? ⟨w2.heap.size, 0, none⟩ = false ∧ W'.frozen? ⟨w2.heap.size, 1, none⟩ = false ∧ W'.frozen? ⟨w2.heap.size, 2, none⟩ = false) := Lib.hid (fun W' hb => ⟨⟨(hb.cell (p := ⟨w2.heap.size, 0, none⟩) hl3).trans c0, (hb.cell (p := ⟨w2.heap.size, 1, none⟩) hl3).trans c1, (hb.cell (p := ⟨w2.heap.size, 2, none⟩) hl3).trans c2⟩, (hb.frozen (p := ⟨w2.heap.size, 0, none⟩) hl3).trans (fz 0), (hb.frozen (p := ⟨w2.heap.size, 1, none⟩) hl3).trans (fz 1), (hb.frozen (p := ⟨w2.heap.size, 2, none⟩) hl3).trans (fz 2)⟩)
    have HB3 := Lib.hid (below_step HB2.out HBA.out)
    have HPo3 := Lib.hid (HPo.out W3 HB3.out)
    clear c0 c1 c2 fz HPo
    refine HPo3.out.mono ?_; rintro e w4 ⟨⟨p, gb, capq, a7, cd, rfl, hPC⟩, hb4⟩
    have HPic := Lib.hid (fun W' (hb : Below w4.heap.size w4 W') => (hPC w4 (Agr.refl _ _)).1.below hb)
    have HC7 := Lib.hid (fun W' (hb : Below w4.heap.size w4 W') => (hPC w4 (Agr.refl _ _)).2.below hb)
    have HPC := Lib.hid hPC
    have HB4 := Lib.hid hb4
    have HB4w := Lib.hid (below_step HB3.out hb4)
    have HCo4 := Lib.hid (HCo.out w4 HB4w.out)
    clear hPC hb4 HPo3
    go_wp2_with fail
    refine HCo4.out.mono ?_; rintro e w5 ⟨rfl, hb5⟩
    have HB5 := Lib.hid hb5
    obtain ⟨⟨c0, c1, c2⟩, f0, f1, f2⟩ := HX.out w5 (below_step HB4.out HB5.out)
    have HSP5 := Lib.hid (HSP.out w5 p ga capp gb capq (HPic.out w5 HB5.out) (HRow.out w5 (below_step HBA.out (below_step HB4.out HB5.out))).1)
    clear hb5 HCo4
    go_wp2_with fail
    refine HSP5.out.mono ?_; rintro e w6 ⟨rfl, hb6⟩
    have HB6 := Lib.hid (below_step HB5.out hb6)
    have HSC6 := Lib.hid (HSC.out w6 a6 a7 cc cd (HRow.out w6 (below_step HBA.out (below_step HB4.out HB6.out))).2 (HC7.out w6 HB6.out))
    clear hb6 HSP5 c0 c1 c2 f0 f1 f2
    go_wp2_with fail
    refine HSC6.out.mono ?_; rintro e w7 ⟨rfl, hb7⟩
    have HB7 := Lib.hid (below_step HB6.out hb7)
    have HB7w := Lib.hid (below_step HB4w.out HB7.out)
    have HPt7 := Lib.hid (HPt.out w7 HB7w.out)
    clear hb7 HSC6 HRow HB6 HB5 HPt
    go_wp2_with fail
    refine HPt7.out.mono ?_; rintro e w8 ⟨⟨gc, capr, a8, ce, rfl, hrow⟩, hb8⟩
    obtain ⟨⟨c0, c1, c2⟩, f0, f1, f2⟩ := HX.out w8 (below_step HB4.out (below_step HB7.out hb8))
    have hs7 : w2.heap.size < w7.heap.size := by
      have h1 := HB4.out.size
      have h2 := HB7.out.size
      omega
    have hw2 : w.heap.size ≤ w2.heap.size := HB2.out.size
    have HB8w := Lib.hid (below_step HB7w.out hb8)
    have HB9 := Lib.hid (((HB8w.out.setCell (p := ⟨w2.heap.size, 0, none⟩) hw2 (.int .i64 (V : Int))).setCell (p := ⟨w2.heap.size, 1, none⟩) hw2 (.int .i64 (K : Int))).setCell (p := ⟨w2.heap.size, 2, none⟩) hw2 (.slice gc np capr))
    have HR9 := Lib.hid (hrow (((w8.setCell ⟨w2.heap.size, 0, none⟩ (.int .i64 (V : Int))).setCell ⟨w2.heap.size, 1, none⟩ (.int .i64 (K : Int))).setCell ⟨w2.heap.size, 2, none⟩ (.slice gc np capr)) (fun b o hb _ => by
      rw [World.cell?_setCell_far _ _ _ _ (by show ¬ w2.heap.size = b; omega), World.cell?_setCell_far _ _ _ _ (by show ¬ w2.heap.size = b; omega), World.cell?_setCell_far _ _ _ _ (by show ¬ w2.heap.size = b; omega)]))
    have hPC9 := HPC.out (((w8.setCell ⟨w2.heap.size, 0, none⟩ (.int .i64 (V : Int))).setCell ⟨w2.heap.size, 1, none⟩ (.int .i64 (K : Int))).setCell ⟨w2.heap.size, 2, none⟩ (.slice gc np capr)) (fun b o hb hlt => by
      have hne : ¬ w2.heap.size = b := by omega
      rw [World.cell?_setCell_far _ _ _ _ hne, World.cell?_setCell_far _ _ _ _ hne, World.cell?_setCell_far _ _ _ _ hne]
      exact (below_step HB7.out hb8).cell (p := ⟨b, o, none⟩) hlt)
    have HP9 := Lib.hid hPC9.1
    have HC9 := Lib.hid hPC9.2
    have HX9 : Hid (∀ W', Below w8.heap.size (((w8.setCell ⟨w2.heap.size, 0, none⟩ (.int .i64 (V : Int))).setCell ⟨w2.heap.size, 1, none⟩ (.int .i64 (K : Int))).setCell ⟨w2.heap.size, 2, none⟩ (.slice gc np capr)) W' → W'.cell? ⟨w2.heap.size, 0, none⟩ = some (.int .i64 (V : Int)) ∧ W'.cell? ⟨w2.heap.size, 1, none⟩ = some (.int .i64 (K : Int)) ∧ W'.cell? ⟨w2.heap.size, 2, none⟩ = some (.slice gc np capr)) := Lib.hid (fun W' hb => by
      have hl : w2.heap.size < w8.heap.size := cell_lt c0
      exact ⟨(hb.cell (p := ⟨w2.heap.size, 0, none⟩) hl).trans ((setO (by decide)).trans ((setO (by decide)).trans (setS c0))), (hb.cell (p := ⟨w2.heap.size, 1, none⟩) hl).trans ((setO (by decide)).trans (setS ((setO (by decide)).trans c1))), (hb.cell (p := ⟨w2.heap.size, 2, none⟩) hl).trans (setS ((setO (by decide)).trans ((setO (by decide)).trans c2)))⟩)
    have hs89 : (((w8.setCell ⟨w2.heap.size, 0, none⟩ (.int .i64 (V : Int))).setCell ⟨w2.heap.size, 1, none⟩ (.int .i64 (K : Int))).setCell ⟨w2.heap.size, 2, none⟩ (.slice gc np capr)).heap.size = w8.heap.size := by simp
    have HCo9 := Lib.hid (HCo.out _ HB9.out)
    clear hrow hb8 hPC9 HPt7 HX HPC HPic HC7 HB8w hs7 hw2 HCo
    go_wp2_with fail
    clear c0 c1 c2 f0 f1 f2
    generalize (((w8.setCell ⟨w2.heap.size, 0, none⟩ (.int .i64 (V : Int))).setCell ⟨w2.heap.size, 1, none⟩ (.int .i64 (K : Int))).setCell ⟨w2.heap.size, 2, none⟩ (.slice gc np capr)) = W9 at *
    refine HCo9.out.mono ?_; rintro e w10 ⟨rfl, hb10⟩
    have HB10 := Lib.hid hb10
    obtain ⟨c0, c1, c2⟩ := HX9.out w10 (by rw [← hs89]; exact HB10.out)
    have HSP10 := Lib.hid (HSP.out w10 p gc capr gb capq (HP9.out.below HB10.out) (HR9.out.1.below HB10.out))
    clear hb10 HCo9
    go_wp2_with fail
    refine HSP10.out.mono ?_; rintro e w11 ⟨rfl, hb11⟩
    have HB11 := Lib.hid (below_step HB10.out hb11)
    have HSC11 := Lib.hid (HSC.out w11 a8 a7 ce cd (HR9.out.2.below HB11.out) (HC9.out.below HB11.out))
    clear hb11 HSP10 c0 c1 c2
    go_wp2_with fail
    refine HSC11.out.mono ?_; rintro e w12 ⟨rfl, hb12⟩
    have HB12 := Lib.hid (below_step HB9.out (below_step HB11.out hb12))
    clear hb12 HSC11 HB11 HB10
    go_wp2
    go_ret
    exact ⟨rfl, HB12.out⟩
/-- The law. -/
theorem frameReads_any (ad : Nat → Addr) {w : World} (b : List UInt8) (a : Option Addr) (cap : Nat) (hc : b.length ≤ cap) (hcm : cap ≤ 9223372036854775807) (hb : BSl w a b) (pf : Nat → Int) (pa : Option Addr) (pn pc : Nat) (hpn : pn ≤ 9223372036854775807) (hpp : IRow w pa pn pf) (hpi : ∀ j, j < pn → In64 (pf j)) (hE : Sents w ad) (hT : Pow10 w) (hN : Nums w)
    (hPoA : ∀ W', BSl W' a b → b.length ≤ 400000 → Calls Tryz.prog 14 #[.slice a b.length cap] W' fun e w' => PoPost b W' e w')
    (hPoB : ∀ W', 400000 < b.length → Calls Tryz.prog 14 #[.slice a b.length cap] W' fun e w' => ∃ p, e = .returned (.tuple #[.pointer (some ⟨p, 0, none⟩), .slice none 0 0, .int .i64 2]) ∧ (∀ W'', Agr W'.heap.size w' W'' → PicAt W'' p 0 0 0 none 0 0 (fun _ => 0)) ∧ Below W'.heap.size W' w') :
    Calls Tryz.prog 4 #[.slice a b.length cap, .slice pa pn pc] w fun e w' => e = .returned (.bool true) ∧ Below w.heap.size w w' := by
  by_cases h0 : (20000 < b.length ∧ b.length ≤ 400000) ∨ 400010 < b.length ∨ 60 < pn
  · exact reads_none ad hE a b.length cap pa pn pc (by omega) hpn h0
  have hpt := fun W' (hbw : Below w.heap.size w W') => parts_any ad b a cap pf pa pn pc W' ((hE.below hbw).errs _ (by decide)) (hT.below hbw) (hN.below hbw) (hb.below hbw) hc (by omega) (hpp.below hbw) (by omega) hpi
  by_cases hbig : 400000 < b.length
  · refine reads_core ad hE a b.length cap 0 0 0 (fun _ => 0) [] (errV ad 1) 2 (by omega) (Nat.zero_le _) pa pn pc (by omega) (by omega) (fun W' hbw => ?_) (fun W' hbw => ?_) (fun W' hbw => ?_) (fun W' hbw => coded4_err ad 1 2 (by omega) rfl W' (hE.below hbw))
    · exact (read_big ad a b.length cap W' ((hE.below hbw).errs _ (by decide)) hbig (by omega)).mono fun e w' ⟨h1, h2⟩ => by rw [h1]; exact ansR_none h2
    · exact (hPoB W' hbig).mono fun e w' ⟨p, h1, h2, h3⟩ => ⟨⟨p, none, 0, none, 0, h1, fun W'' hW => ⟨h2 W'' hW, Or.inl rfl⟩⟩, h3⟩
    · exact (hpt W' hbw).mono fun e w' h => by
        unfold PtPost at h
        rw [if_pos hbig] at h
        rw [h.1]
        exact ansR_none h.2
  have hptR := fun W' (hbw : Below w.heap.size w W') => (hpt W' hbw).mono (fun e w' h => by
    unfold PtPost at h
    rw [if_neg hbig] at h
    exact h : ∀ e w', PtPost b W' ad e w' → RdPost b W' ad e w')
  have hrd := fun W' (hbw : Below w.heap.size w W') => read_any ad b a cap W' ((hE.below hbw).errs _ (by decide)) (hT.below hbw) (hN.below hbw) (hb.below hbw) hc (by omega)
  by_cases hf : IsFile b
  · obtain ⟨V, K, f, cs, v, hbe⟩ := hf
    have hVK : V * K ≤ 65536 := Nat.le_trans (Nat.mul_le_mul v.w2 v.h2) (by decide)
    have hcs := v.crd.1
    exact reads_core ad hE a b.length cap V K (V * K) f cs .nilIface 0 (by omega) (by omega) pa pn pc (by omega) (by omega) (fun W' hbw => (hrd W' hbw).mono fun e w' h => h.ansOk v hbe) (fun W' hbw => (hPoA W' (hb.below hbw) (by omega)).mono fun e w' h => h.ansOk v hbe) (fun W' hbw => (hptR W' hbw).mono fun e w' h => h.ansOk v hbe) (fun W' _ => coded4_nil W')
  · exact reads_core ad hE a b.length cap 0 0 0 (fun _ => 0) [] (errV ad 7) 8 (by omega) (Nat.zero_le _) pa pn pc (by omega) (by omega) (fun W' hbw => (hrd W' hbw).mono fun e w' h => h.ansNo hf) (fun W' hbw => (hPoA W' (hb.below hbw) (by omega)).mono fun e w' h => h.ansNo hf) (fun W' hbw => (hptR W' hbw).mono fun e w' h => h.ansNo hf) (fun W' hbw => coded4_err ad 7 8 (by omega) rfl W' (hE.below hbw))
end Go.Proofs.YtjcmpkkflboaoaaGreatDoor

namespace Go.Proofs.YtjcmpkkflboaoaaGreatDoor
open Go.RowKit

/-- What number makes of bytes. -/
def numF : List UInt8 → Nat → Nat
  | [], n => n
  | c :: l, n => if c.toNat < 48 ∨ 57 < c.toNat ∨ 100000 < n then 0 else numF l (n * 10 + (c.toNat - 48))
theorem numF_le : ∀ l n, n ≤ 1000009 → numF l n ≤ 1000009
  | [], n, h => h
  | c :: l, n, h => by
    rw [numF]
    split
    · omega
    · rename_i g
      exact numF_le l _ (by omega)
theorem numF_val : ∀ (l : List UInt8) (n : Nat), (∀ c, c ∈ l → 48 ≤ c.toNat ∧ c.toNat ≤ 57) → l.foldl (fun n c => n * 10 + (c.toNat - 48)) n ≤ 100000 → numF l n = l.foldl (fun n c => n * 10 + (c.toNat - 48)) n
  | [], n, _, _ => rfl
  | c :: l, n, hd, hv => by
    have hmono : ∀ (l : List UInt8) (n : Nat), n ≤ l.foldl (fun n c => n * 10 + (c.toNat - 48)) n := by
      intro l
      induction l with
      | nil => intro n; exact Nat.le_refl _
      | cons c l ih => intro n; rw [List.foldl_cons]; exact Nat.le_trans (by omega) (ih _)
    rw [List.foldl_cons] at hv ⊢
    have h1 := hmono l (n * 10 + (c.toNat - 48))
    have h2 := hd c (List.mem_cons_self ..)
    rw [numF, if_neg (by omega)]
    exact numF_val l _ (fun d h => hd d (List.mem_cons_of_mem _ h)) hv
theorem numF_dec {n : Nat} (h : n ≤ 256) : numF (Lib.decDigits n) 0 = n := by
  have hv : (Lib.decDigits n).foldl (fun n c => n * 10 + (c.toNat - 48)) 0 = n := valD_dec n
  rw [numF_val _ _ dec_mem (by rw [hv]; omega), hv]
theorem numF_step {l : List UInt8} {k n : Nat} {x : UInt8} (hx : l[k]? = some x) : numF (l.drop k) n = if x.toNat < 48 ∨ 57 < x.toNat ∨ 100000 < n then 0 else numF (l.drop (k + 1)) (n * 10 + (x.toNat - 48)) := by
  have hk : k < l.length := (List.getElem?_eq_some_iff.1 hx).1
  rw [List.drop_eq_getElem_cons hk, numF]
  rw [List.getElem?_eq_getElem hk] at hx
  rw [Option.some.inj hx]
set_option maxRecDepth 20000 in
set_option maxHeartbeats 4000000 in
theorem number_any (s : ByteArray) (hs : s.size ≤ 1000000) (w : World) :
    Calls Tryz.prog 38 #[.string s] w fun e w' => e = .returned (.int .i64 (numF s.data.toList 0 : Nat)) ∧ w = w' := by
  have HLn := Lib.hid (ba_len s)
  go_enter Tryz.func38, Tryz.ntmps38
  go_wp2
  go_loopw [3, 4] (fun a i wr => ∃ k n : Nat, k ≤ s.size ∧ n ≤ 1000009 ∧ i = .int .i64 k ∧ a = .int .i64 n ∧ Hid (numF s.data.toList 0 = numF (s.data.toList.drop k) n) ∧ w = wr) (fun _ i _ => s.size - (intOf i).toNat)
  case atStart => exact ⟨0, 0, Nat.zero_le _, by omega, rfl, rfl, Lib.hid (by rw [List.drop_zero]), rfl⟩
  case round =>
    obtain ⟨k, n, hk, hn, rfl, rfl, HV, rfl⟩ := hrel
    by_cases hlt : k < s.size
    · have hlt8 := s[k].toNat_lt
      have HS := Lib.hid (HV.out.trans (numF_step (ba_get hlt)))
      clear HV
      by_cases g : s[k].toNat < 48 ∨ 57 < s[k].toNat ∨ 100000 < n
      · have HE := Lib.hid (HS.out.trans (if_pos g))
        clear HS
        rcases g with g | g | g
        · go_wp2
          go_ret
          exact ⟨by rw [HE.out]; rfl, rfl⟩
        · go_wp2
          go_ret
          exact ⟨by rw [HE.out]; rfl, rfl⟩
        · go_wp2
          all_goals
            go_ret
            exact ⟨by rw [HE.out]; rfl, rfl⟩
      · have HE := Lib.hid (HS.out.trans (if_neg g))
        have e1 : decide ((s[k].toNat : Int) < 48) = false := decide_eq_false (by omega)
        have e2 : decide ((57 : Int) < (s[k].toNat : Int)) = false := decide_eq_false (by omega)
        have e3 : decide ((100000 : Int) < (n : Int)) = false := decide_eq_false (by omega)
        have g1 : 48 ≤ s[k].toNat := by omega
        have g2 : s[k].toNat ≤ 57 := by omega
        have g3 : n ≤ 100000 := by omega
        clear HS g
        go_wp2
        go_roundw
        case rel => exact ⟨k + 1, n * 10 + (s[k].toNat - 48), by omega, by omega, by go_num, by simp; omega, HE, by simp⟩
        case measure => simp [intOf]; omega
    · have HE : Hid (numF s.data.toList 0 = n) := Lib.hid (by
        rw [HV.out, List.drop_eq_nil_of_le (by rw [HLn.out]; omega)]
        rfl)
      go_wp2
      go_ret
      exact ⟨by rw [HE.out]; rfl, rfl⟩
end Go.Proofs.YtjcmpkkflboaoaaGreatDoor

namespace Go.Proofs.YtjcmpkkflboaoaaGreatDoor
open Go.RowKit

set_option maxRecDepth 20000 in
set_option maxHeartbeats 8000000 in
theorem pictureOf_any (b : List UInt8) (a : Option Addr) (cap : Nat) (w : World) (h : BSl w a b) (hc : b.length ≤ cap) (hl : b.length ≤ 400000) :
    Calls Tryz.prog 14 #[.slice a b.length cap] w fun e w' => PoPost b w e w' := by
  have hd : decide ((400000 : Int) < (b.length : Int)) = false := decide_eq_false (by omega)
  have HB0 := Lib.hid ((Below.refl w.heap.size w).alloc (Nat.le_refl _) (.cells #[.int .i64 0, .int .i64 0, .slice none 0 0] 33))
  have HS := Lib.hid (fun W' (hb : Below w.heap.size w W') => h.below hb)
  clear h
  obtain ⟨L, hL⟩ : ∃ L, b.length = L := ⟨_, rfl⟩
  rw [hL] at hc hl hd ⊢
  have HL := Lib.hid hL
  clear hL
  obtain ⟨ic, hc1, hc2, hc3, hc4⟩ := info_parts info_card
  obtain ⟨j0, hj, hy0, hy1, hy2⟩ := info_parts info_int'
  go_enter Tryz.func14, Tryz.ntmps14
  go_upto_block 0 with (fail)
  have hp1 : PicAt (w.alloc (.cells #[.int .i64 0, .int .i64 0, .slice none 0 0] 33)) w.heap.size 0 0 0 none 0 0 (fun _ => 0) := ⟨by simp, by simp, by simp, Or.inl rfl⟩
  generalize w.alloc (.cells #[.int .i64 0, .int .i64 0, .slice none 0 0] 33) = W1 at *
  have HPo : Hid (¬ IsFile b → ∀ W', Below W1.heap.size W1 W' → PoPost b w (.returned (.tuple #[.pointer (some ⟨w.heap.size, 0, none⟩), .slice none 0 0, .int .i64 8])) W') := Lib.hid (fun hn W' hb => PoPost.no hn (hp1.below hb) (Nat.le_refl _) (below_step HB0.out hb))
  clear hp1
  go_cut [6, 7, 8] (fun v x s wx => ∃ q t : Nat, x = .int .i64 t ∧ t ≤ L ∧ q ≤ 106 ∧ Hid (t = 80 * q) ∧ Hid (((cardAt b q).1 = [69, 78, 68] ∧ t + 80 ≤ L) ∨ L < t + 80) ∧ Hid (∀ p, p < q → (cardAt b p).1 ≠ [69, 78, 68]) ∧ Hid (GC W1.heap.size W1 v (crdsAt b q) wx))
  case first =>
    have G0 : Hid (GC W1.heap.size W1 (.slice none 0 0) [] W1) := Lib.hid ⟨World.ownsRow_nil _ _ _ _, Below.refl _ _, Nat.le_refl _⟩
    go_wp2_with fail
    go_loopw [6, 7] (fun v x wr => ∃ q t : Nat, x = .int .i64 t ∧ t ≤ L ∧ q ≤ 106 ∧ Hid (t = 80 * q) ∧ Hid (∀ p, p < q → (cardAt b p).1 ≠ [69, 78, 68]) ∧ Hid (GC W1.heap.size W1 v (crdsAt b q) wr)) (fun _ x _ => L - (intOf x).toNat)
    case atStart => exact ⟨0, 0, rfl, Nat.zero_le _, Nat.zero_le _, Lib.hid rfl, Lib.hid (fun p hp => absurd hp (Nat.not_lt_zero _)), G0⟩
    case round =>
      clear G0
      obtain ⟨q, t, rfl, htL, hq, HTq, HNe, HG⟩ := hrel
      obtain ⟨aa, capp, rfl⟩ := HG.out.form
      have hG := HG.out
      rw [crdsAt_len] at hG ⊢
      have HG := Lib.hid hG
      clear hG
      by_cases hfit : t + 80 ≤ L
      · have d1 : decide ((t : Int) + 80 ≤ (L : Int)) = true := decide_eq_true (by omega)
        have hLb := HL.out
        have HBr := Lib.hid (below_step HB0.out HG.out.2.1)
        rcases HS.out wr HBr.out with hnil | ⟨bb, ob, rfl, hbin⟩
        · rw [hnil] at hLb
          simp at hLb
          omega
        have ht1 := trimmed_any (sl b t 8) bb (ob + t) (cap - t) wr hbin.sl (by have := sl_le b t 8; omega) (by have := sl_le b t 8; omega)
        have ht2 := trimmed_any (sl b (t + 10) 70) bb (ob + (t + 10)) (cap - (t + 10)) wr hbin.sl (by have := sl_le b (t + 10) 70; omega) (by have := sl_le b (t + 10) 70; omega)
        rw [sl_len (by omega), show Lib.trimRightB (sl b t 8) 32 = (cardAt b q).1 by rw [HTq.out]; rfl] at ht1
        rw [sl_len (by omega), show Lib.trimRightB (sl b (t + 10) 70) 32 = (cardAt b q).2 by rw [HTq.out]; rfl] at ht2
        have HT1 := Lib.hid ht1
        have HT2 := Lib.hid ht2
        have i1 : (0 : Int) ≤ (t : Int) := by omega
        have i2 : (t : Int) ≤ (t : Int) + 8 := by omega
        have i3 : (t : Int) + 8 ≤ (cap : Int) := by omega
        have i4 : ¬ cap = t := by omega
        have i5 : (t : Int) + 80 ≤ (cap : Int) := by omega
        have i6 : (t : Int) + 10 ≤ (t : Int) + 80 := by omega
        have i7 : ¬ cap = t + 10 := by omega
        clear hbin hLb ht1 ht2
        by_cases e4 : (cardAt b q).1 = [69, 78, 68]
        · have hE : ((bs (cardAt b q).1).toList == [69, 78, 68]) = true := by rw [bs_toList, e4, beq_self_eq_true]
          have HX : Hid (((cardAt b q).1 = [69, 78, 68] ∧ t + 80 ≤ L) ∨ L < t + 80) := Lib.hid (Or.inl ⟨e4, hfit⟩)
          clear e4
          generalize bs (cardAt b q).1 = s1 at *
          clear HT2
          go_wp2_with fail
          refine HT1.out.mono ?_; rintro e w3 ⟨rfl, rfl⟩
          go_wp2
          go_meet
          case rel => exact ⟨q, t, rfl, htL, hq, HTq, HX, HNe, HG⟩
        · have hE : ((bs (cardAt b q).1).toList == [69, 78, 68]) = false := by rw [bs_toList, beq_eq_false_iff_ne]; exact e4
          have HNe2 : Hid (∀ p, p < q + 1 → (cardAt b p).1 ≠ [69, 78, 68]) := Lib.hid (fun p hp => by
            by_cases e : p = q
            · rw [e]; exact e4
            · exact HNe.out p (by omega))
          have HEn : Hid ([.string (bs (cardAt b q).1), .string (bs (cardAt b q).2)] = encC [cardAt b q]) := Lib.hid rfl
          have hos : Hid (∀ o, (wr.alloc o).ownsRow W1.heap.size 51 2 (.slice aa q capp) q (encC (crdsAt b q))) := Lib.hid (fun o => by
            have := World.ownsRow.alloc HG.out.1 o
            rwa [crdsAt_len] at this)
          have hsz := HG.out.2.1.size
          clear e4 HNe
          generalize bs (cardAt b q).1 = s1 at *
          generalize bs (cardAt b q).2 = s2 at *
          go_wp2_with fail
          refine HT1.out.mono ?_; rintro e w3 ⟨rfl, rfl⟩
          clear HT1
          go_wp2_with fail
          refine HT2.out.mono ?_; rintro e w3 ⟨rfl, rfl⟩
          clear HT2
          go_wp2_with (first
            | (at_builtin; refine wpList_append_own_at _ rfl _ _ 23 rfl W1.heap.size 51 ic _ 2 32 Tryz.underlying23 hc1 hc2 hc3 hc4 rfl (by decide) (.slice aa q capp) q (encC (crdsAt b q)) rfl (hos.out _) ⟨wr.heap.size, 0, none⟩ 1 1 [.string s1, .string s2] rfl rfl (newsB _ _ _) (by rw [HEn.out]; exact encC_cells _) ?c3 ?c4 ?c5 ?_)
            | fail)
          case c3 => unfold maxLen; omega
          case c4 => omega
          case c5 => simp; omega
          intro v' w4 hown hgrow _ _
          rw [HEn.out] at hown
          have R4 := HG.out.step (k := 1) (M := [cardAt b q]) rfl (by rw [crdsAt_len]; exact hown) hgrow
          rw [← crdsAt_succ] at R4
          obtain ⟨a5, cap5, rfl⟩ := R4.form
          rw [crdsAt_len] at R4 ⊢
          have HR4 := Lib.hid R4
          have HTq2 : Hid (t + 80 = 80 * (q + 1)) := Lib.hid (by have := HTq.out; omega)
          clear hown hgrow R4 HG hos HTq
          by_cases g6 : q + 1 ≤ 106
          · have d6 : decide ((106 : Int) < ((q + 1 : Nat) : Int)) = false := decide_eq_false (by omega)
            go_wp2
            go_roundw
            case rel => exact ⟨q + 1, t + 80, by go_num, by omega, g6, HTq2, HNe2, HR4⟩
            case measure => simp [intOf]; omega
          · have d6 : decide ((106 : Int) < ((q + 1 : Nat) : Int)) = true := decide_eq_true (by omega)
            have HNo : Hid (¬ IsFile b) := Lib.hid (noFile_many2 (q := q + 1) (by omega) HNe2.out)
            have HBj := Lib.hid HR4.out.2.1
            clear HNe2 HR4 HTq2
            go_wp2
            refine bodyPost_ret (v := .tuple #[.pointer (some ⟨w.heap.size, 0, none⟩), .slice none 0 0, .int .i64 8]) ?_ rfl ?_
            · simp [results, Tryz.results14, go_sem]
            · exact HPo.out HNo.out _ HBj.out
      · have d1 : decide ((t : Int) + 80 ≤ (L : Int)) = false := decide_eq_false (by omega)
        have HX : Hid (((cardAt b q).1 = [69, 78, 68] ∧ t + 80 ≤ L) ∨ L < t + 80) := Lib.hid (Or.inr (by omega))
        go_wp2
        go_meet
        case rel => exact ⟨q, t, rfl, htL, hq, HTq, HX, HNe, HG⟩
  case rest =>
    obtain ⟨q, t, rfl, htL, hq, HTq, HX, HNe, HG⟩ := hcut
    obtain ⟨aa, capp, rfl⟩ := HG.out.form
    have hRl := crdsAt_len b q
    have hG := HG.out
    rw [hRl] at hG ⊢
    have HG := Lib.hid hG
    clear hG
    by_cases h6 : q < 6
    · have d6 : decide ((q : Int) < 6) = true := decide_eq_true (by omega)
      have HNo : Hid (¬ IsFile b) := Lib.hid (by
        rcases HX.out with ⟨hE, _⟩ | hs
        · exact noFile_few2 h6 hE
        · exact noFile_short2 (q := q) (by rw [HL.out]; have := HTq.out; omega) HNe.out)
      have HBj := Lib.hid HG.out.2.1
      clear HTq HX HNe HG hRl
      go_wp2
      refine bodyPost_ret (v := .tuple #[.pointer (some ⟨w.heap.size, 0, none⟩), .slice none 0 0, .int .i64 8]) ?_ rfl ?_
      · simp [results, Tryz.results14, go_sem]
      · exact HPo.out HNo.out _ HBj.out
    · have d6 : decide ((q : Int) < 6) = false := decide_eq_false (by omega)
      have hcapp : q ≤ capp := by
        rcases HG.out.1.2 with ⟨e, h0⟩ | ⟨g, cap', cur, e, _, _, hh, _⟩
        · rw [hRl] at h0; omega
        · simp only [Value.slice.injEq] at e
          obtain ⟨_, _, rfl⟩ := e
          rw [hRl] at hh
          exact hh
      have hCR := HG.out.row (fun c hc => by
        have := crdsAt_short b q c hc
        have h1 := this.1
        have h2 := this.2
        omega)
      obtain ⟨bR, oR, rfl, hbR, ⟨_, c3⟩, _, _⟩ := hCR.at (i := 3) (by omega)
      obtain ⟨bR', oR', e', _, ⟨_, c4⟩, _, _⟩ := hCR.at (i := 4) (by omega)
      obtain ⟨rfl, rfl⟩ : bR = bR' ∧ oR = oR' := by cases e'; exact ⟨rfl, rfl⟩
      have e3 : vlC (crdsAt b q) 3 = (cardAt b 3).2 := by unfold vlC; rw [crdsAt_get b (by omega)]
      have e4 : vlC (crdsAt b q) 4 = (cardAt b 4).2 := by unfold vlC; rw [crdsAt_get b (by omega)]
      rw [e3] at c3
      rw [e4] at c4
      have HCR := Lib.hid hCR
      have hn3 := fun W => number_any (bs (cardAt b 3).2) (by rw [bs_size]; have := (cardAt_short b 3).2; omega) W
      have hn4 := fun W => number_any (bs (cardAt b 4).2) (by rw [bs_size]; have := (cardAt_short b 4).2; omega) W
      rw [bs_list] at hn3 hn4
      have HGo : Hid ((cardAt b q).1 = [69, 78, 68] → Got b q (numF (cardAt b 3).2 0) (numF (cardAt b 4).2 0)) := Lib.hid (fun hE => nums_got (by omega) hE HNe.out (fun V hV e => by rw [e, numF_dec hV]) (fun V hV e => by rw [e, numF_dec hV]))
      have hx3 := numF_le (cardAt b 3).2 0 (by omega)
      have hx4 := numF_le (cardAt b 4).2 0 (by omega)
      have HN3 := Lib.hid hn3
      have HN4 := Lib.hid hn4
      have HBc := Lib.hid HG.out.2.1
      clear hCR e3 e4 e' hn3 hn4 HG
      generalize bs (cardAt b 3).2 = sa3 at *
      generalize bs (cardAt b 4).2 = sa4 at *
      generalize numF (cardAt b 3).2 0 = V at *
      generalize numF (cardAt b 4).2 0 = K at *
      have r3 : (3 : Int) < (q : Int) := by omega
      have r4 : (4 : Int) < (q : Int) := by omega
      rename World => wl
      go_upto_region 15 with (fail)
      go_cut [9] (fun v wx => ∃ g, v = .pointer (some ⟨g, 0, none⟩) ∧ wl.heap.size ≤ g ∧ g < wx.heap.size ∧ wx.cell? ⟨g, 0, none⟩ = some (.int .i64 V) ∧ wx.cell? ⟨g, 1, none⟩ = some (.int .i64 K) ∧ wx.cell? ⟨g, 2, none⟩ = some (.slice none 0 0) ∧ wx.frozen? ⟨g, 2, none⟩ = false ∧ Hid (Below wl.heap.size wl wx))
      case first =>
        go_region_held3 (fun w' => w'.cell? ⟨bR, oR + 3 * 2 + 1, none⟩ = some (.string sa3) ∧ w'.cell? ⟨bR, oR + 4 * 2 + 1, none⟩ = some (.string sa4)) (go_keep)
          (first
            | (go_at_call_of 38 (Value.string sa3); refine (HN3.out _).mono ?_; rintro e w' ⟨rfl, rfl⟩)
            | (go_at_call_of 38 (Value.string sa4); refine (HN4.out _).mono ?_; rintro e w' ⟨rfl, rfl⟩))
        all_goals
          go_wp2_with fail
          go_meet
          exact ⟨wl.heap.size, rfl, Nat.le_refl _, by simp, by simp, by simp, by simp, by simp, Lib.hid (((Below.refl _ _).alloc (Nat.le_refl _) _).drew)⟩
      case rest =>
        rename World => wm
        obtain ⟨g, rfl, hgs, hgl, k0, k1, k2, kf, HBx⟩ := hcut
        have HBt := Lib.hid (below_step HBc.out HBx.out)
        have HCR2 := Lib.hid (HCR.out.below HBx.out)
        have hbl : ∀ W, Calls Tryz.prog 31 #[.int .i64 ((t : Int) + 80)] W fun e w' => e = .returned (.int .i64 (blk (t + 80) : Nat)) ∧ W = w' := fun W => by
          have := blocks_any (t + 80) (by omega) W
          rwa [show ((t + 80 : Nat) : Int) = (t : Int) + 80 by omega] at this
        have hdb : t + 80 ≤ blk (t + 80) ∧ blk (t + 80) ≤ t + 2960 := by unfold blk; omega
        have hd0 : dat0 (q - 6) = blk (t + 80) := by rw [← dat0_ref q (by omega), HTq.out]
        generalize blk (t + 80) = d at *
        have HBl := Lib.hid hbl
        have HD := Lib.hid hd0
        have hWl : W1.heap.size ≤ wl.heap.size := HBc.out.size
        have hlm := HBx.out.size
        have hbR2 : bR < wm.heap.size := by have := HBx.out.size; omega
        clear hbl hd0 HBc HCR r3 r4 c3 c4 HBx
        go_wp2_with fail
        refine (HBl.out _).mono ?_; rintro e w3 ⟨rfl, rfl⟩
        by_cases g1 : 256 < V
        · have b1 : decide ((256 : Int) < (V : Int)) = true := decide_eq_true (by omega)
          have HNo : Hid (¬ IsFile b) := Lib.hid (by
            rcases HX.out with ⟨hE, _⟩ | hs
            · exact (HGo.out hE).noW (Or.inr (Or.inr (Or.inl g1)))
            · exact noFile_short2 (q := q) (by rw [HL.out]; have := HTq.out; omega) HNe.out)
          clear HTq HX HNe HGo HD HCR2 HN3 HN4 HBl
          go_wp2
          go_quiet (fail)
          have HBj := Lib.hid (below_drewN HBt.out nq)
          go_wp2
          refine bodyPost_ret (v := .tuple #[.pointer (some ⟨w.heap.size, 0, none⟩), .slice none 0 0, .int .i64 8]) ?_ rfl ?_
          · simp [results, Tryz.results14, go_sem]
          · exact HPo.out HNo.out _ HBj.out
        have b1 : decide ((256 : Int) < (V : Int)) = false := decide_eq_false (by omega)
        by_cases g2 : 256 < K
        · have b2 : decide ((256 : Int) < (K : Int)) = true := decide_eq_true (by omega)
          have HNo : Hid (¬ IsFile b) := Lib.hid (by
            rcases HX.out with ⟨hE, _⟩ | hs
            · exact (HGo.out hE).noW (Or.inr (Or.inr (Or.inr (Or.inl g2))))
            · exact noFile_short2 (q := q) (by rw [HL.out]; have := HTq.out; omega) HNe.out)
          clear HTq HX HNe HGo HD HCR2 HN3 HN4 HBl
          go_wp2
          go_quiet (fail)
          have HBj := Lib.hid (below_drewN HBt.out nq)
          go_wp2
          refine bodyPost_ret (v := .tuple #[.pointer (some ⟨w.heap.size, 0, none⟩), .slice none 0 0, .int .i64 8]) ?_ rfl ?_
          · simp [results, Tryz.results14, go_sem]
          · exact HPo.out HNo.out _ HBj.out
        have b2 : decide ((256 : Int) < (K : Int)) = false := decide_eq_false (by omega)
        obtain ⟨A, hA⟩ : ∃ A, K * V = A := ⟨_, rfl⟩
        have hA1 : A ≤ 65536 := by rw [← hA]; exact Nat.le_trans (Nat.mul_le_mul (Nat.le_of_not_lt g2) (Nat.le_of_not_lt g1)) (by decide)
        have hVK : (V : Int) * (K : Int) = (A : Int) := by rw [← hA]; push_cast; exact Int.mul_comm _ _
        have e2 : (2 : Int) * (V : Int) * (K : Int) = 2 * (A : Int) := by rw [Int.mul_assoc, hVK]
        have HA := Lib.hid hA
        clear hA
        by_cases g3 : L < d + 2 * A
        · have b3 : decide ((L : Int) < (d : Int) + 2 * (A : Int)) = true := decide_eq_true (by omega)
          clear hVK
          have HNo : Hid (¬ IsFile b) := Lib.hid (by
            rcases HX.out with ⟨hE, _⟩ | hs
            · exact (HGo.out hE).noW (Or.inr (Or.inr (Or.inr (Or.inr (by rw [HL.out, HD.out, HA.out]; omega)))))
            · exact noFile_short2 (q := q) (by rw [HL.out]; have := HTq.out; omega) HNe.out)
          clear HTq HX HNe HGo HD HCR2 HN3 HN4 HBl
          go_wp2
          go_quiet (fail)
          have HBj := Lib.hid (below_drewN HBt.out nq)
          go_wp2
          refine bodyPost_ret (v := .tuple #[.pointer (some ⟨w.heap.size, 0, none⟩), .slice none 0 0, .int .i64 8]) ?_ rfl ?_
          · simp [results, Tryz.results14, go_sem]
          · exact HPo.out HNo.out _ HBj.out
        have b3 : decide ((L : Int) < (d : Int) + 2 * (A : Int)) = false := decide_eq_false (by omega)
        have HGot : Hid (Got b q V K) := Lib.hid (by
          rcases HX.out with ⟨hE, _⟩ | hs
          · exact HGo.out hE
          · omega)
        clear HX HGo HNe HN3 HN4 HBl HTq
        go_wp2
        go_quiet (fail)
        have HBt2 := Lib.hid (below_drewN HBt.out nq)
        have HCR3 := Lib.hid (HCR2.out.below (below_drewN (Below.refl wm.heap.size wm) nq))
        have k0' : (wm.drewN nq).cell? ⟨g, 0, none⟩ = some (.int .i64 V) := by simpa using k0
        have k1' : (wm.drewN nq).cell? ⟨g, 1, none⟩ = some (.int .i64 K) := by simpa using k1
        have k2' : (wm.drewN nq).cell? ⟨g, 2, none⟩ = some (.slice none 0 0) := by simpa using k2
        have kf' : (wm.drewN nq).frozen? ⟨g, 2, none⟩ = false := by simpa using kf
        have hln : wl.heap.size ≤ (wm.drewN nq).heap.size := by simpa using hlm
        have hgl' : g < (wm.drewN nq).heap.size := by simpa using hgl
        have hbR3 : bR < (wm.drewN nq).heap.size := by simpa using hbR2
        clear k0 k1 k2 kf hgl hbR2 HBt HCR2 hlm
        generalize wm.drewN nq = wn at *
        have hmk := fun W => run_make_row (P := Tryz.prog) 24 3 j0 (.int .i64 0) Tryz.underlying24 hj hy0 hy1 rfl .i64 .i64 A (by rw [hy2]; omega) (by omega) W
        have ewA : IntKind.i64.wrap (A : Int) = (A : Int) := IntWalk.i64_in _ (by omega)
        go_upto_region 19 with (fail)
        go_cut [] (fun wx => ∃ h, h < wx.heap.size ∧ wn.heap.size ≤ h ∧ wx.cell? ⟨g, 0, none⟩ = some (.int .i64 V) ∧ wx.cell? ⟨g, 1, none⟩ = some (.int .i64 K) ∧ wx.cell? ⟨g, 2, none⟩ = some (.slice (some ⟨h, 0, none⟩) A A) ∧ Hid (OutC wx h A (fun _ => 0)) ∧ Hid (Below wl.heap.size wn wx))
        case first =>
          have hsm : Below wn.heap.size wn (wn.alloc (.cells (madeCells #[.int .i64 0] A) 3)).drew := ((Below.refl wn.heap.size wn).alloc (Nat.le_refl _) _).drew
          have HSm : Hid ((wn.alloc (.cells (madeCells #[.int .i64 0] A) 3)).drew.cell? ⟨g, 0, none⟩ = some (.int .i64 V) ∧ (wn.alloc (.cells (madeCells #[.int .i64 0] A) 3)).drew.cell? ⟨g, 1, none⟩ = some (.int .i64 K) ∧ (wn.alloc (.cells (madeCells #[.int .i64 0] A) 3)).drew.frozen? ⟨g, 2, none⟩ = false) := Lib.hid ⟨(hsm.cell (p := ⟨g, 0, none⟩) hgl').trans k0', (hsm.cell (p := ⟨g, 1, none⟩) hgl').trans k1', (hsm.frozen (p := ⟨g, 2, none⟩) hgl').trans kf'⟩
          have HSn : Hid (∀ v, ((wn.setCell ⟨g, 2, none⟩ v).alloc (.cells (madeCells #[.int .i64 0] A) 3)).drew.cell? ⟨g, 0, none⟩ = some (.int .i64 V) ∧ ((wn.setCell ⟨g, 2, none⟩ v).alloc (.cells (madeCells #[.int .i64 0] A) 3)).drew.cell? ⟨g, 1, none⟩ = some (.int .i64 K) ∧ ((wn.setCell ⟨g, 2, none⟩ v).alloc (.cells (madeCells #[.int .i64 0] A) 3)).drew.frozen? ⟨g, 2, none⟩ = false) := Lib.hid (fun v => by
            have hgl2 : g < (wn.setCell ⟨g, 2, none⟩ v).heap.size := by simpa using hgl'
            have hb : Below (wn.setCell ⟨g, 2, none⟩ v).heap.size (wn.setCell ⟨g, 2, none⟩ v) ((wn.setCell ⟨g, 2, none⟩ v).alloc (.cells (madeCells #[.int .i64 0] A) 3)).drew := ((Below.refl _ _).alloc (Nat.le_refl _) _).drew
            exact ⟨(hb.cell (p := ⟨g, 0, none⟩) hgl2).trans ((setO (by decide)).trans k0'), (hb.cell (p := ⟨g, 1, none⟩) hgl2).trans ((setO (by decide)).trans k1'), (hb.frozen (p := ⟨g, 2, none⟩) hgl2).trans (by simpa using kf')⟩)
          clear hsm
          go_region_held3 (fun w' => w'.cell? ⟨g, 0, none⟩ = some (.int .i64 V) ∧ w'.cell? ⟨g, 1, none⟩ = some (.int .i64 K) ∧ w'.frozen? ⟨g, 2, none⟩ = false) (first | (exact HSm.out) | (exact HSn.out _) | go_keep) (fail)
          all_goals
            go_wp2_with fail
            go_meet
            have hgl2 : g < (wn.setCell ⟨g, 2, none⟩ (.slice (some ⟨wn.heap.size, 0, none⟩) A A)).heap.size := by simpa using hgl'
            have hb : Below (wn.setCell ⟨g, 2, none⟩ (.slice (some ⟨wn.heap.size, 0, none⟩) A A)).heap.size (wn.setCell ⟨g, 2, none⟩ (.slice (some ⟨wn.heap.size, 0, none⟩) A A)) ((wn.setCell ⟨g, 2, none⟩ (.slice (some ⟨wn.heap.size, 0, none⟩) A A)).alloc (.cells (madeCells #[.int .i64 0] A) 3)).drew := ((Below.refl _ _).alloc (Nat.le_refl _) _).drew
            have hO := (outC_row (wn.setCell ⟨g, 2, none⟩ (.slice (some ⟨wn.heap.size, 0, none⟩) A A)) A).drw
            have hBe : Below wl.heap.size wn ((wn.setCell ⟨g, 2, none⟩ (.slice (some ⟨wn.heap.size, 0, none⟩) A A)).alloc (.cells (madeCells #[.int .i64 0] A) 3)).drew := (((Below.refl wl.heap.size wn).setCell (p := ⟨g, 2, none⟩) hgs _).alloc (by simpa using hln) _).drew
            have hse : (wn.setCell ⟨g, 2, none⟩ (.slice (some ⟨wn.heap.size, 0, none⟩) A A)).heap.size = wn.heap.size := by simp
            rw [hse] at hO
            exact ⟨wn.heap.size, by simp, Nat.le_refl _, (hb.cell (p := ⟨g, 0, none⟩) hgl2).trans ((setO (by decide)).trans k0'), (hb.cell (p := ⟨g, 1, none⟩) hgl2).trans ((setO (by decide)).trans k1'), (hb.cell (p := ⟨g, 2, none⟩) hgl2).trans (setS k2'), Lib.hid hO, Lib.hid hBe⟩
        case rest =>
          rename World => wo
          obtain ⟨h, hhl, hhn, k0, k1, k2, HO, HBo⟩ := hcut
          have HBt3 := Lib.hid (HBt2.out.trans (HBo.out.mono hWl))
          have HCRo := Lib.hid (HCR3.out.belowG HBo.out hbR)
          have hgh : g < h := by omega
          have hbRh : bR < h := by omega
          have hLb := HL.out
          obtain ⟨bb, ob, rfl, hbin⟩ : ∃ bb ob, a = some ⟨bb, ob, none⟩ ∧ BIn wo bb ob b := by
            rcases HS.out wo (below_step HB0.out HBt3.out) with hnil | ⟨bb, ob, e, hb⟩
            · rw [hnil] at hLb
              simp at hLb
              omega
            · exact ⟨bb, ob, e, hb⟩
          have hbp : bb < w.heap.size := by
            have hL0 : 0 < b.length := by rw [hLb]; omega
            rcases HS.out w (Below.refl _ _) with hnil | ⟨b', o', e', hb'⟩
            · rw [hnil] at hL0; simp at hL0
            · cases e'; exact cell_lt (hb' 0 _ (List.getElem?_eq_getElem hL0))
          have hbbh : bb < h := by have := HB0.out.size; omega
          have HP : Hid (∀ W', Below h wo W' → W'.cell? ⟨g, 0, none⟩ = some (.int .i64 (V : Int)) ∧ W'.cell? ⟨g, 1, none⟩ = some (.int .i64 (K : Int)) ∧ W'.cell? ⟨g, 2, none⟩ = some (.slice (some ⟨h, 0, none⟩) A A)) := Lib.hid (fun W' hb => ⟨(hb.cell (p := ⟨g, 0, none⟩) hgh).trans k0, (hb.cell (p := ⟨g, 1, none⟩) hgh).trans k1, (hb.cell (p := ⟨g, 2, none⟩) hgh).trans k2⟩)
          have HBn : Hid (∀ W', Below h wo W' → ∀ i x, b[i]? = some x → W'.cell? ⟨bb, ob + i, none⟩ = some (.int .u8 (x.toNat : Int))) := Lib.hid (fun W' hb i x hx => (hb.cell (p := ⟨bb, ob + i, none⟩) hbbh).trans (hbin i x hx))
          have HF0 : Hid (FillR b d V K 0 (fun _ => 0)) := Lib.hid (FillR.zero b d V K)
          have HVK := Lib.hid hVK
          clear HBo HCR3 hmk k0' k1' k2' kf' k0 k1 k2 hbin hLb hgl' hbR3 HBt2 b1 b2 b3 d6 hd e2 hc1 hc2 hc3 hc4 hj hy0 hy1 hy2 ewA hVK
          go_wp2_with fail
          go_loopw [10] (fun i wr => ∃ (k : Nat) (M : Nat → Nat), k ≤ A ∧ i = .int .i64 k ∧ Hid (FillR b d V K k M) ∧ Hid (OutC wr h A M) ∧ Hid (Below h wo wr)) (fun i _ => A - (intOf i).toNat)
          case atStart => exact ⟨0, fun _ => 0, Nat.zero_le _, rfl, HF0, HO, Lib.hid (Below.refl _ _)⟩
          case round =>
            clear HF0 HO
            obtain ⟨k, M, hk, rfl, HF, HO, HB⟩ := hrel
            by_cases hkt : k < A
            · have hkA : k < K * V := by rw [HA.out]; exact hkt
              have hV0 : 0 < V := by
                rcases Nat.eq_zero_or_pos V with rfl | h
                · rw [Nat.mul_zero] at hkA; omega
                · exact h
              have hst := HF.out.step hkA
              obtain ⟨hjl, _, _⟩ := rk_spot hkA
              rw [HA.out] at hjl
              have hu1 : k / V < K := (Nat.div_lt_iff_lt_mul hV0).2 hkA
              have hx1 := Nat.mod_lt k hV0
              have eq1 : (k : Int).tdiv (V : Int) = ((k / V : Nat) : Int) := by rw [Int.tdiv_eq_ediv_of_nonneg (by omega)]; rfl
              have er1 : (k : Int).tmod (V : Int) = ((k % V : Nat) : Int) := by rw [Int.tmod_eq_emod_of_nonneg (by omega)]; rfl
              have eq2 : (k : Int) / (V : Int) = ((k / V : Nat) : Int) := rfl
              have er2 : (k : Int) % (V : Int) = ((k % V : Nat) : Int) := rfl
              generalize k / V = u at *
              generalize k % V = x at *
              obtain ⟨Y, hY⟩ : ∃ Y, K - 1 - u = Y := ⟨_, rfl⟩
              rw [hY] at hjl hst
              have hYi : (K : Int) - 1 - (u : Int) = (Y : Int) := by omega
              obtain ⟨J, hJ⟩ : ∃ J, Y * V = J := ⟨_, rfl⟩
              rw [hJ] at hjl hst
              obtain ⟨jx, hjx⟩ : ∃ jx, J + x = jx := ⟨_, rfl⟩
              rw [hjx] at hjl hst
              obtain ⟨c, hc0⟩ : ∃ c, d + 2 * k = c := ⟨_, rfl⟩
              rw [hc0] at hst
              have hcL : c + 1 < L := by omega
              have h0 : b[c]? = some (b[c]'(by rw [HL.out]; omega)) := List.getElem?_eq_getElem _
              have h1 : b[c + 1]? = some (b[c + 1]'(by rw [HL.out]; omega)) := List.getElem?_eq_getElem _
              generalize (b[c]'(by rw [HL.out]; omega)) = y0 at *
              generalize (b[c + 1]'(by rw [HL.out]; omega)) = y1 at *
              have hval : pxU b c = (y0.toNat * 256 + y1.toNat + 32768) % 65536 := by
                unfold pxU pxN
                rw [List.getD_eq_getElem?_getD, List.getD_eq_getElem?_getD, h0, h1]
                rfl
              rw [hval] at hst
              have HQ0 := Lib.hid (fun W' (hb : Below h wo W') => HBn.out W' hb c y0 h0)
              have HQ1 := Lib.hid (fun W' (hb : Below h wo W') => HBn.out W' hb (c + 1) y1 h1)
              have t0 := y0.toNat_lt
              have t1 := y1.toNat_lt
              generalize y0.toNat = n0 at *
              generalize y1.toNat = n1 at *
              obtain ⟨N, hN⟩ : ∃ N, n0 * 256 + n1 = N := ⟨_, rfl⟩
              rw [hN] at hst
              obtain ⟨pv, hpv⟩ : ∃ pv, (N + 32768) % 65536 = pv := ⟨_, rfl⟩
              rw [hpv] at hst
              have hN6 : N < 65536 := by omega
              have hpv6 : pv < 65536 := by omega
              have HF2 := Lib.hid hst
              have Hhci : Hid ((d : Int) + 2 * (k : Int) = (c : Int)) := Lib.hid (by omega)
              have HhNi : Hid ((n0 : Int) * 256 + (n1 : Int) = (N : Int)) := Lib.hid (by omega)
              have HhYV : Hid ((Y : Int) * (V : Int) = (J : Int)) := Lib.hid (by rw [← hJ]; push_cast; rfl)
              have Hhji : Hid ((J : Int) + (x : Int) = (jx : Int)) := Lib.hid (by omega)
              have Hep1 : Hid (((N : Int) + 32768).tmod 65536 = (pv : Int)) := Lib.hid (by rw [Int.tmod_eq_emod_of_nonneg (by omega)]; omega)
              have Hep2 : Hid (((N : Int) + 32768) % 65536 = (pv : Int)) := Lib.hid (by omega)
              have Her := Lib.hid er1
              have Her2 := Lib.hid er2
              clear er1 er2 h0 h1 hst hval hpv hN hc0 hjx hJ hY hkA HF
              have ewa : IntKind.i64.wrap ((K : Int) - 1) = (K : Int) - 1 := IntWalk.i64_in _ (by omega)
              have ewb : IntKind.i64.wrap (u : Int) = (u : Int) := IntWalk.i64_in _ (by omega)
              have ewd : IntKind.i64.wrap (Y : Int) = (Y : Int) := IntWalk.i64_in _ (by omega)
              have r6 : ¬ (V : Int) = 0 := by omega
              have r7 : ((V : Int) == 0) = false := by rw [beq_eq_false_iff_ne]; omega
              obtain ⟨p0, p1, p2⟩ := HP.out wr HB.out
              go_wp2
              go_quiet (fail)
              have HB1 := Lib.hid (below_drewN HB.out nq)
              have HO1 := Lib.hid (HO.out.drawN nq)
              clear p0 p1 p2 HO HB eq1 eq2 hYi ewa ewb ewd r6 r7
              generalize wr.drewN nq = wd1 at *
              have hci := Hhci.out
              have ewk : IntKind.i64.wrap (2 * (k : Int)) = 2 * (k : Int) := IntWalk.i64_in _ (by omega)
              have ewc : IntKind.i64.wrap (c : Int) = (c : Int) := IntWalk.i64_in _ (by omega)
              have ewc1 : IntKind.i64.wrap ((c : Int) + 1) = (c : Int) + 1 := IntWalk.i64_in _ (by omega)
              have ewn : IntKind.i64.wrap ((n0 : Int) * 256) = (n0 : Int) * 256 := IntWalk.i64_in _ (by omega)
              have ewn0 : IntKind.i64.wrap (n0 : Int) = (n0 : Int) := IntWalk.i64_in _ (by omega)
              have ewn1 : IntKind.i64.wrap (n1 : Int) = (n1 : Int) := IntWalk.i64_in _ (by omega)
              have hNi := HhNi.out
              have ewN : IntKind.i64.wrap (N : Int) = (N : Int) := IntWalk.i64_in _ (by omega)
              have r0 : (0 : Int) ≤ (c : Int) := by omega
              have r1 : (c : Int) < (L : Int) := by omega
              have r2 : (0 : Int) ≤ (c : Int) + 1 := by omega
              have r3 : (c : Int) + 1 < (L : Int) := by omega
              have q0 := HQ0.out wd1 HB1.out
              have q1 := HQ1.out wd1 HB1.out
              go_wp2
              go_quiet (fail)
              have HB2 := Lib.hid (below_drewN HB1.out nq)
              have HO2 := Lib.hid (HO1.out.drawN nq)
              clear q0 q1 HB1 HO1 hci ewk ewc ewc1 ewn ewn0 ewn1 hNi ewN r0 r1 r2 r3
              generalize wd1.drewN nq = wd2 at *
              obtain ⟨p0, p1, p2⟩ := HP.out wd2 HB2.out
              have HBd := Lib.hid (HB2.out.drew)
              have HSS : Hid (∀ W', Below h wo W' → W'.cell? ⟨g, 0, none⟩ = some (.int .i64 (V : Int)) ∧ W'.cell? ⟨g, 2, none⟩ = some (.slice (some ⟨h, 0, none⟩) A A)) := Lib.hid (fun W' hb => ⟨(HP.out W' hb).1, (HP.out W' hb).2.2⟩)
              have HS0 := Lib.hid (HSS.out wd2.drew HBd.out)
              have HS1 := Lib.hid (fun v => HSS.out (wd2.drew.setCell ⟨h, jx, none⟩ v) (HBd.out.setCell (p := ⟨h, jx, none⟩) (Nat.le_refl _) v))
              have hYV := HhYV.out
              have hji := Hhji.out
              have ewJ : IntKind.i64.wrap (J : Int) = (J : Int) := IntWalk.i64_in _ (by omega)
              have ewj : IntKind.i64.wrap (jx : Int) = (jx : Int) := IntWalk.i64_in _ (by omega)
              have ewx : IntKind.i64.wrap (x : Int) = (x : Int) := IntWalk.i64_in _ (by omega)
              have ewM : IntKind.i64.wrap ((N : Int) + 32768) = (N : Int) + 32768 := IntWalk.i64_in _ (by omega)
              have ep1 := Hep1.out
              have ep2 := Hep2.out
              have ewp : IntKind.i64.wrap (pv : Int) = (pv : Int) := IntWalk.i64_in _ (by omega)
              have r4 : (0 : Int) ≤ (jx : Int) := by omega
              have r5 : (jx : Int) < (A : Int) := by omega
              have r6 : ¬ (V : Int) = 0 := by omega
              have r7 : ((V : Int) == 0) = false := by rw [beq_eq_false_iff_ne]; omega
              have her := Her.out
              have her2 := Her2.out
              obtain ⟨oc, of⟩ := HO2.out jx hjl
              clear p1
              go_wp2
              go_region
              all_goals
                have HO3 := Lib.hid ((HO2.out.put hjl pv).drw)
                have HB3 := Lib.hid ((HB2.out.setCell (p := ⟨h, jx, none⟩) (Nat.le_refl _) (.int .i64 (pv : Int))).drew)
                generalize (wd2.setCell ⟨h, jx, none⟩ (.int .i64 (pv : Int))).drew = wd at *
                clear hV0 hjl hu1 hx1 her her2 Her Her2 r6 r7 hYV hji ewJ ewj ewx ewM ep1 ep2 ewp r4 r5 HQ0 HQ1 hpv6 p0 p2 HBd HSS HS0 HS1 oc of HO2 HB2 hcL Hhci HhNi HhYV Hhji Hep1 Hep2
                go_wp2
                go_roundw
                case rel => exact ⟨k + 1, putF M jx pv, by omega, by go_num, HF2, HO3, HB3⟩
                case measure => simp [intOf]; omega
            · obtain rfl : A = k := by omega
              have hfa : FillR b d V K (K * V) M := by rw [HA.out]; exact HF.out
              have HI := Lib.hid (HO.out.irow (fun j hj => hfa.all j (by rw [HA.out]; exact hj)))
              obtain ⟨p0, p1, p2⟩ := HP.out wr HB.out
              have HPi : Hid (PicAt wr g 0 (V : Nat) (K : Nat) (some ⟨h, 0, none⟩) A A (pxF b d V K)) := Lib.hid ⟨p0, p1, p2, HI.out⟩
              have hcw := (HCRo.out.belowG HB.out hbRh).drop6 hRl (by omega) hcapp
              have hlen6 : ((crdsAt b q).drop 6).length = q - 6 := by rw [List.length_drop, hRl]
              have hsl := fun W => slice6 W bR oR q capp (by omega)
              obtain ⟨a6, ha6⟩ : ∃ a6 : Addr, (if capp = 6 then ⟨bR, oR, none⟩ else ⟨bR, oR + 12, none⟩) = a6 := ⟨_, rfl⟩
              rw [ha6] at hcw hsl
              obtain ⟨c6, hc6⟩ : ∃ c6, capp - 6 = c6 := ⟨_, rfl⟩
              obtain ⟨q6, hq6⟩ : ∃ q6, q - 6 = q6 := ⟨_, rfl⟩
              rw [hc6, hq6] at hsl
              rw [hq6] at hlen6
              have hq6b : q6 ≤ 100 := by omega
              obtain ⟨v4, w4, hr4, G4⟩ := GC_append (L := []) (v := .slice none 0 0) ⟨World.ownsRow_nil _ _ _ _, Below.refl wr.heap.size wr, Nat.le_refl _⟩ (some a6) c6 23 hcw (by rw [hlen6]; simp; omega)
              rw [List.nil_append] at G4
              obtain ⟨a4, cap4, rfl⟩ := G4.form
              rw [hlen6] at hr4 G4
              have HG4 := Lib.hid G4
              have hwr := HB.out.size
              have HBw4 := Lib.hid (HBt3.out.trans ((HB.out.mono (by omega)).trans (G4.2.1.mono (by have := HBt3.out.size; omega))))
              have hC4 := G4.row (fun c hc => by
                have := crdsAt_short b q c (List.mem_of_mem_drop hc)
                have h1 := this.1
                have h2 := this.2
                omega)
              have hP4 := HPi.out.below G4.2.1
              have hfr : ∀ x, a4 = some x → w.heap.size ≤ x.block := fun x e => by
                subst e
                have := (G4.1.lt x.block rfl).1
                have := HB0.out.size
                omega
              have HFr := Lib.hid hfr
              have HP4 := Lib.hid hP4
              have HC4 := Lib.hid hC4
              have hgw : w.heap.size ≤ g := by have := HB0.out.size; omega
              have hhw : w.heap.size ≤ h := by omega
              have HL6 := Lib.hid hlen6
              clear ha6 hc6 hq6 p0 p1 hfa HF HO HI hcw G4 hC4 hP4 hfr HBn HP
              by_cases hgood : (1 ≤ V ∧ 1 ≤ K) ∧ crdOk ((crdsAt b q).drop 6)
              · obtain ⟨⟨hV1, hK1⟩, hok⟩ := hgood
                have hpg : picG V K A (pxF b d V K) := ⟨by omega, by omega, by omega, by omega, HVK.out.symm, fun j _ => pxV_in _ _⟩
                have hfo := fileOf_ok V K (pxF b d V K) g 0 (some ⟨h, 0, none⟩) A A ((crdsAt b q).drop 6) a4 cap4 w4 HP4.out hpg HC4.out hok
                rw [hlen6] at hfo
                have HFo := Lib.hid hfo
                have HV : Hid (FileV V K (pxF b d V K) ((crdsAt b q).drop 6)) := Lib.hid ⟨hV1, by omega, hK1, by omega, fun _ _ => pxV_in _ _, hok⟩
                clear hpg hfo hok hlen6
                go_wp2_with (first | (at_builtin; refine Lib.wpList_append_run_sl _ rfl _ _ 23 rfl _ _ rfl rfl hr4 ?_) | fail)
                clear hr4 hsl p2
                refine HFo.out.mono ?_; rintro e w5 ⟨v5, rfl, hG5⟩
                obtain ⟨a5, cap5, rfl⟩ := hG5.form
                have hk1 := hG5.bsl.cnv cap5
                have HBw5 := Lib.hid (HBw4.out.trans (hG5.2.1.mono (by have := HBw4.out.size; omega)))
                have hk2 := (HS.out w5 (below_step HB0.out HBw5.out)).cnv cap
                rw [HL.out] at hk2
                have HP5 := Lib.hid (HP4.out.below hG5.2.1)
                have HC5 := Lib.hid (HC4.out.below hG5.2.1)
                by_cases heq : fileL V K (pxF b d V K) ((crdsAt b q).drop 6) = b
                · have he : ((bs (fileL V K (pxF b d V K) ((crdsAt b q).drop 6))).toList == (bs b).toList) = true := by rw [heq, beq_self_eq_true]
                  have HPost : Hid (PoPost b w (.returned (.tuple #[.pointer (some ⟨g, 0, none⟩), .slice a4 q6 cap4, .int .i64 0])) w5) := Lib.hid
                    ⟨Or.inl ⟨V, K, pxF b d V K, (crdsAt b q).drop 6, g, some ⟨h, 0, none⟩, A, A, a4, cap4, HV.out, heq.symm, by rw [HL6.out], by rw [← HA.out, Nat.mul_comm], fun W' hW => ⟨pic_agr HP5.out hgw hhw hW, row_agr HC5.out HFr.out hW⟩⟩, below_step HB0.out HBw5.out⟩
                  clear heq hG5 HP5 HC5 HFo HV
                  generalize (fileL V K (pxF b d V K) ((crdsAt b q).drop 6)).length = lf at *
                  generalize bs (fileL V K (pxF b d V K) ((crdsAt b q).drop 6)) = s5 at *
                  generalize bs b = sb at *
                  go_wp2
                  refine bodyPost_ret (v := .tuple #[.pointer (some ⟨g, 0, none⟩), .slice a4 q6 cap4, .int .i64 0]) ?_ rfl ?_
                  · simp [results, Tryz.results14, go_sem]
                  · exact HPost.out
                · have he : ((bs (fileL V K (pxF b d V K) ((crdsAt b q).drop 6))).toList == (bs b).toList) = false := by rw [bs_toList, bs_toList, beq_eq_false_iff_ne]; exact heq
                  have HNo : Hid (¬ IsFile b) := Lib.hid (HGot.out.noB (by rw [HD.out]; exact heq))
                  have HBj := Lib.hid HBw5.out
                  clear heq hG5 HP5 HC5 HFo HV
                  generalize (fileL V K (pxF b d V K) ((crdsAt b q).drop 6)).length = lf at *
                  generalize bs (fileL V K (pxF b d V K) ((crdsAt b q).drop 6)) = s5 at *
                  generalize bs b = sb at *
                  go_wp2
                  refine bodyPost_ret (v := .tuple #[.pointer (some ⟨w.heap.size, 0, none⟩), .slice none 0 0, .int .i64 8]) ?_ rfl ?_
                  · simp [results, Tryz.results14, go_sem]
                  · exact HPo.out HNo.out _ HBj.out
              · have HNo : Hid (¬ IsFile b) := Lib.hid (by
                  by_cases c1 : 1 ≤ V ∧ 1 ≤ K
                  · exact HGot.out.noC (fun h => hgood ⟨c1, h⟩)
                  · exact HGot.out.noW (by omega))
                have hfo : Calls Tryz.prog 8 #[.pointer (some ⟨g, 0, none⟩), .slice a4 q6 cap4] w4 fun e w' => ∃ z : Nat, 0 < z ∧ z < 100 ∧ e = .returned (.tuple #[.slice none 0 0, .int .i64 (z : Nat)]) ∧ Below w4.heap.size w4 w' := by
                  by_cases c1 : 1 ≤ V ∧ 1 ≤ K
                  · have hpg : picG V K A (pxF b d V K) := ⟨by omega, by omega, by omega, by omega, HVK.out.symm, fun j _ => pxV_in _ _⟩
                    have hc := crdE_no (fun h => hgood ⟨c1, h⟩)
                    have := fileOf_crdE V K (pxF b d V K) g 0 (some ⟨h, 0, none⟩) A A ((crdsAt b q).drop 6) a4 cap4 w4 HP4.out hpg HC4.out (by rw [hlen6]; omega) hc
                    rw [hlen6] at this
                    exact this.mono fun e w' ⟨h1, h2⟩ => ⟨_, hc, crdE_lt _, h1, h2⟩
                  · have := fileOf_picE V K (pxF b d V K) g 0 (some ⟨h, 0, none⟩) A A a4 q6 cap4 w4 HP4.out (by omega) (fun hp => c1 ⟨by have := hp.1; omega, by have := hp.2.2.1; omega⟩)
                    exact this.mono fun e w' ⟨h1, h2⟩ => ⟨_, Nat.succ_pos _, picB_lt6 _ _, h1, h2⟩
                have HFo := Lib.hid hfo
                clear hgood hfo hlen6
                go_wp2_with (first | (at_builtin; refine Lib.wpList_append_run_sl _ rfl _ _ 23 rfl _ _ rfl rfl hr4 ?_) | fail)
                clear hr4 hsl p2
                refine HFo.out.mono ?_; rintro e w5 ⟨z, hz0, hz1, rfl, hb5⟩
                have HBj := Lib.hid (HBw4.out.trans (hb5.mono HBw4.out.size))
                have hzd : decide ((0 : Int) < (z : Int)) = true := decide_eq_true (by omega)
                clear hb5 HFo
                go_wp2
                refine bodyPost_ret (v := .tuple #[.pointer (some ⟨w.heap.size, 0, none⟩), .slice none 0 0, .int .i64 8]) ?_ rfl ?_
                · simp [results, Tryz.results14, go_sem]
                · exact HPo.out HNo.out _ HBj.out
end Go.Proofs.YtjcmpkkflboaoaaGreatDoor

namespace Go.Proofs.YtjcmpkkflboaoaaGreatDoor
open Go.RowKit

set_option maxRecDepth 20000 in
set_option maxHeartbeats 1000000 in
theorem pictureOf_big (a : Option Addr) (L cap : Nat) (w : World) (hl : 400000 < L) (hl2 : L ≤ 9223372036854775807) :
    Calls Tryz.prog 14 #[.slice a L cap] w fun e w' => ∃ p, e = .returned (.tuple #[.pointer (some ⟨p, 0, none⟩), .slice none 0 0, .int .i64 2]) ∧ (∀ W', Agr w.heap.size w' W' → PicAt W' p 0 0 0 none 0 0 (fun _ => 0)) ∧ Below w.heap.size w w' := by
  have hd : decide ((400000 : Int) < (L : Int)) = true := decide_eq_true (by omega)
  have hp1 : PicAt (w.alloc (.cells #[.int .i64 0, .int .i64 0, .slice none 0 0] 33)) w.heap.size 0 0 0 none 0 0 (fun _ => 0) := ⟨by simp, by simp, by simp, Or.inl rfl⟩
  have HP := Lib.hid hp1
  have HB0 := Lib.hid ((Below.refl w.heap.size w).alloc (Nat.le_refl _) (.cells #[.int .i64 0, .int .i64 0, .slice none 0 0] 33))
  clear hp1
  go_enter Tryz.func14, Tryz.ntmps14
  go_wp2
  refine bodyPost_ret (v := .tuple #[.pointer (some ⟨w.heap.size, 0, none⟩), .slice none 0 0, .int .i64 2]) ?_ rfl ?_
  · simp [results, Tryz.results14, go_sem]
  · exact ⟨w.heap.size, rfl, fun _ hW => pic_agr0 HP.out (Nat.le_refl _) hW, HB0.out⟩
end Go.Proofs.YtjcmpkkflboaoaaGreatDoor

namespace Go.Proofs.YtjcmpkkflboaoaaGreatDoor
open Go.RowKit

theorem frameReads_all (ad : Nat → Addr) {w : World} (b : List UInt8) (a : Option Addr) (cap : Nat) (hc : b.length ≤ cap) (hcm : cap ≤ 9223372036854775807) (hb : BSl w a b) (pf : Nat → Int) (pa : Option Addr) (pn pc : Nat) (hpn : pn ≤ 9223372036854775807) (hpp : IRow w pa pn pf) (hpi : ∀ j, j < pn → In64 (pf j)) (hE : Sents w ad) (hT : Pow10 w) (hN : Nums w) :
    Calls Tryz.prog 4 #[.slice a b.length cap, .slice pa pn pc] w fun e w' => e = .returned (.bool true) ∧ Below w.heap.size w w' :=
  frameReads_any ad b a cap hc hcm hb pf pa pn pc hpn hpp hpi hE hT hN (fun W' h hl => pictureOf_any b a cap W' h hc hl) (fun W' hbig => pictureOf_big a b.length cap W' hbig (by omega))
end Go.Proofs.YtjcmpkkflboaoaaGreatDoor
