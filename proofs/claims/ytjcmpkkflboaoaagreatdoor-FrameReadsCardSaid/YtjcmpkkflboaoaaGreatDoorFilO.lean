/- meridianref4.FileOf. -/
import Derived.Test.YtjcmpkkflboaoaaGreatDoorCrdR
import Derived.Test.YtjcmpkkflboaoaaGreatDoorCrdE
import Derived.Test.YtjcmpkkflboaoaaGreatDoorConv
import Derived.Test.YtjcmpkkflboaoaaGreatDoorPicE
import Derived.Test.YtjcmpkkflboaoaaGreatDoorAre
import Derived.Test.YtjcmpkkflboaoaaGreatDoorFilP
namespace Go.Proofs.YtjcmpkkflboaoaaGreatDoor
open Go.RowKit

/-- cardRow, at strings. -/
theorem cardRow_s {B : Nat} {w wr : World} {v : Value} {l : List UInt8} (h : GB B w v l wr) (hl : l.length ≤ 900000) {sn sv : ByteArray} (nm vl : List UInt8) (en : sn = bs nm) (ev : sv = bs vl) (hn : nm.length ≤ 1000) (hv : vl.length ≤ 1000) :
    Calls Tryz.prog 28 #[v, .string sn, .string sv] wr fun e w' => ∃ v', e = .returned v' ∧ GB B w v' (l ++ rowC (nm, vl)) w' := by
  subst en ev
  exact (cardRow_any B l nm vl v wr h.start hl hn hv).mono fun e w' ⟨v', he, hG⟩ => ⟨v', he, h.trans hG⟩
theorem fileOf_picE (W H : Int) (f : Nat → Int) (b o : Nat) (a : Option Addr) (n cap : Nat) (ca : Option Addr) (cn cc : Nat) (w : World) (hp : PicAt w b o W H a n cap f) (hn : n ≤ 9223372036854775807) (g : ¬ picG W H n f) :
    Calls Tryz.prog 8 #[.pointer (some ⟨b, o, none⟩), .slice ca cn cc] w fun e w' => e = .returned (.tuple #[.slice none 0 0, .int .i64 (picB W H + 1 : Nat)]) ∧ Below w.heap.size w w' := by
  have HV := Lib.hid (picE_bad b o W H f a n cap w hp hn g)
  clear hp g hn
  generalize picB W H = pb at *
  have hpb : (0 : Int) < ((pb + 1 : Nat) : Int) := by omega
  have hpz : (((pb + 1 : Nat) : Int) == 0) = false := by rw [beq_eq_false_iff_ne]; omega
  generalize ((pb + 1 : Nat) : Int) = pe at *
  go_enter Tryz.func8, Tryz.ntmps8
  go_wp2_with fail
  refine HV.out.mono ?_; rintro e wa ⟨rfl, hb1⟩
  have HB := Lib.hid hb1
  clear hb1 HV
  go_wp2
  go_ret2
  exact ⟨rfl, HB.out⟩
theorem fileOf_crdE (W H : Int) (f : Nat → Int) (b o : Nat) (a : Option Addr) (n cap : Nat) (cs : List Crd) (ca : Option Addr) (cc : Nat) (w : World) (hp : PicAt w b o W H a n cap f) (g : picG W H n f) (hc : CRow w ca cs) (hn : cs.length ≤ 9223372036854775807) (he : 0 < crdE cs) :
    Calls Tryz.prog 8 #[.pointer (some ⟨b, o, none⟩), .slice ca cs.length cc] w fun e w' => e = .returned (.tuple #[.slice none 0 0, .int .i64 (crdE cs : Nat)]) ∧ Below w.heap.size w w' := by
  have HV := Lib.hid (picE_ok b o W H f a n cap w hp g)
  have HC := Lib.hid (fun w' (hb : Below w.heap.size w w') => cardsError_any cs ca cc w' (hc.below hb) hn)
  have hpb : (0 : Int) < ((crdE cs : Nat) : Int) := by omega
  have hpz : (((crdE cs : Nat) : Int) == 0) = false := by rw [beq_eq_false_iff_ne]; omega
  clear hp g hc he
  generalize ((crdE cs : Nat) : Int) = pe at *
  go_enter Tryz.func8, Tryz.ntmps8
  go_wp2_with fail
  refine HV.out.mono ?_; rintro e wa ⟨rfl, hb1⟩
  have HB := Lib.hid hb1
  clear hb1 HV
  go_wp2_with fail
  refine (HC.out _ HB.out).mono ?_; rintro e wb ⟨rfl, hb2⟩
  have HB2 := Lib.hid (below_step HB.out hb2)
  clear hb2 HB HC
  go_wp2
  go_ret2
  exact ⟨rfl, HB2.out⟩
/-- The first six rows, one behind the other. -/
theorem allF (W H : Nat) (hW : W ≤ 256) (hH : H ≤ 256) : (([] : List UInt8)).length ≤ 900000 ∧ (([] : List UInt8) ++ rowC ([83, 73, 77, 80, 76, 69], [84])).length ≤ 900000 ∧ (([] : List UInt8) ++ rowC ([83, 73, 77, 80, 76, 69], [84]) ++ rowC ([66, 73, 84, 80, 73, 88], [49, 54])).length ≤ 900000 ∧ (([] : List UInt8) ++ rowC ([83, 73, 77, 80, 76, 69], [84]) ++ rowC ([66, 73, 84, 80, 73, 88], [49, 54]) ++ rowC ([78, 65, 88, 73, 83], [50])).length ≤ 900000 ∧ (([] : List UInt8) ++ rowC ([83, 73, 77, 80, 76, 69], [84]) ++ rowC ([66, 73, 84, 80, 73, 88], [49, 54]) ++ rowC ([78, 65, 88, 73, 83], [50]) ++ rowC ([78, 65, 88, 73, 83, 49], Lib.decDigits W)).length ≤ 900000 ∧ (([] : List UInt8) ++ rowC ([83, 73, 77, 80, 76, 69], [84]) ++ rowC ([66, 73, 84, 80, 73, 88], [49, 54]) ++ rowC ([78, 65, 88, 73, 83], [50]) ++ rowC ([78, 65, 88, 73, 83, 49], Lib.decDigits W) ++ rowC ([78, 65, 88, 73, 83, 50], Lib.decDigits H)).length ≤ 900000 ∧ ([] : List UInt8) ++ rowC ([83, 73, 77, 80, 76, 69], [84]) ++ rowC ([66, 73, 84, 80, 73, 88], [49, 54]) ++ rowC ([78, 65, 88, 73, 83], [50]) ++ rowC ([78, 65, 88, 73, 83, 49], Lib.decDigits W) ++ rowC ([78, 65, 88, 73, 83, 50], Lib.decDigits H) ++ rowC ([66, 90, 69, 82, 79], [51, 50, 55, 54, 56]) = allR (fixC W H) := by
  have hs := fixC_short hW hH
  have h0 := rowC_len (hs ([83, 73, 77, 80, 76, 69], [84]) (by unfold fixC; simp))
  have h1 := rowC_len (hs ([66, 73, 84, 80, 73, 88], [49, 54]) (by unfold fixC; simp))
  have h2 := rowC_len (hs ([78, 65, 88, 73, 83], [50]) (by unfold fixC; simp))
  have h3 := rowC_len (hs ([78, 65, 88, 73, 83, 49], Lib.decDigits W) (by unfold fixC; simp))
  have h4 := rowC_len (hs ([78, 65, 88, 73, 83, 50], Lib.decDigits H) (by unfold fixC; simp))
  have h5 := rowC_len (hs ([66, 90, 69, 82, 79], [51, 50, 55, 54, 56]) (by unfold fixC; simp))
  refine ⟨?_, ?_, ?_, ?_, ?_, ?_, ?_⟩
  · exact Nat.zero_le _
  · simp only [List.length_append, List.length_nil, h0, h1, h2, h3, h4]; omega
  · simp only [List.length_append, List.length_nil, h0, h1, h2, h3, h4]; omega
  · simp only [List.length_append, List.length_nil, h0, h1, h2, h3, h4]; omega
  · simp only [List.length_append, List.length_nil, h0, h1, h2, h3, h4]; omega
  · simp only [List.length_append, List.length_nil, h0, h1, h2, h3, h4]; omega
  · unfold fixC
    simp only [allR, List.append_nil, List.nil_append, List.append_assoc]
theorem encEnd : ([.int .u8 69, .int .u8 78, .int .u8 68] : List Value) = encB [69, 78, 68] := by kernel_rfl
/-- A pixel's two cells. -/
theorem enc_b2 (v : Int) {pn : Nat} (h : (v + 32768) % 65536 = (pn : Int)) : ([.int .u8 ((pn / 256 : Nat) : Int), .int .u8 ((pn % 256 : Nat) : Int)] : List Value) = encB (b2 v) := by
  have hp : pn < 65536 := by omega
  have e : ((v + 32768) % 65536).toNat = pn := by omega
  unfold b2 encB
  rw [e]
  simp only [List.map_cons, List.map_nil]
  rw [UInt8.toNat_ofNat_of_lt' (show pn / 256 < UInt8.size by have : UInt8.size = 256 := rfl; omega), UInt8.toNat_ofNat_of_lt' (show pn % 256 < UInt8.size from Nat.mod_lt _ (by decide))]
/-- The rows of the first cards, and of some. -/
theorem rows_take {W H : Nat} {cs : List Crd} {k : Nat} (hk : k < cs.length) : allR (fixC W H ++ cs.take (k + 1)) = allR (fixC W H ++ cs.take k) ++ rowC (nmC cs k, vlC cs k) := by
  have e : cs.take (k + 1) = cs.take k ++ [(nmC cs k, vlC cs k)] := by
    rw [List.take_add_one, List.getElem?_eq_getElem hk]
    unfold nmC vlC
    rw [List.getD_eq_getElem?_getD, List.getElem?_eq_getElem hk]
    rfl
  rw [e, ← List.append_assoc, allR_one]
set_option maxRecDepth 10000 in
set_option maxHeartbeats 8000000 in
theorem fileOf_ok (V K : Nat) (f : Nat → Int) (b o : Nat) (a : Option Addr) (n cap : Nat) (cs : List Crd) (ca : Option Addr) (cc : Nat) (w : World) (hp : PicAt w b o V K a n cap f) (g : picG V K n f) (hc : CRow w ca cs) (hok : crdOk cs) :
    Calls Tryz.prog 8 #[.pointer (some ⟨b, o, none⟩), .slice ca cs.length cc] w fun e w' => ∃ v, e = .returned (.tuple #[v, .int .i64 0]) ∧ GB w.heap.size w v (fileL V K f cs) w' := by
  obtain ⟨i0, hi, hz0, hz1, hz2⟩ := info_parts info_byte
  have hlen := hok.1
  have HV := Lib.hid (picE_ok b o V K f a n cap w hp g)
  have hce : crdE cs = 0 := crdE_ok (by omega) hok.2.1 hok.2.2
  have HC := Lib.hid (fun w' (hb : Below w.heap.size w w') => cardsError_any cs ca cc w' (hc.below hb) (by omega))
  rw [hce] at HC
  obtain ⟨w1, w2, h1, h2, c4, hcn⟩ := g
  have n2 : n ≤ 65536 := (area_bd (f := f) (W := V) (H := K) ⟨w1, w2, h1, h2, c4, hcn⟩).2
  have hV : 1 ≤ V ∧ V ≤ 256 := by omega
  have hK : 1 ≤ K ∧ K ≤ 256 := by omega
  have HNN : Hid (n = K * V) := Lib.hid (by
    have : (n : Int) = ((V * K : Nat) : Int) := by rw [c4]; push_cast; rfl
    rw [Nat.mul_comm]; omega)
  have HSh := Lib.hid (crdOk_short hok)
  have HA := Lib.hid (fun j (hj : j < n) => hp.2.2.2.at hj)
  have HCn := Lib.hid hcn
  have HPi := Lib.hid hp
  have HCr := Lib.hid hc
  have HDW := Lib.hid (fun W' => decimal_int (V : Int) (by omega) (by omega) W')
  have HDH := Lib.hid (fun W' => decimal_int (K : Int) (by omega) (by omega) W')
  rw [show ((V : Int)).toNat = V by omega] at HDW
  rw [show ((K : Int)).toNat = K by omega] at HDH
  have HdW := Lib.hid (dec_short hV.2)
  have HdH := Lib.hid (dec_short hK.2)
  have hF := allF V K hV.2 hK.2
  have HLE0 := Lib.hid hF.1
  have HLE1 := Lib.hid hF.2.1
  have HLE2 := Lib.hid hF.2.2.1
  have HLE3 := Lib.hid hF.2.2.2.1
  have HLE4 := Lib.hid hF.2.2.2.2.1
  have HLE5 := Lib.hid hF.2.2.2.2.2.1
  have HF6 := Lib.hid hF.2.2.2.2.2.2
  have HHl : Hid ((hdL V K cs).length ≤ 12000) := Lib.hid (by rw [hdL_len hV.2 hK.2 (crdOk_short hok)]; unfold blk; omega)
  clear hF hp hc hok hce w1 w2 h1 h2 c4 hcn
  go_enter Tryz.func8, Tryz.ntmps8
  go_wp2_with fail
  refine HV.out.mono ?_; rintro e wa ⟨rfl, hb1⟩
  have HB := Lib.hid hb1
  clear hb1 HV
  go_wp2_with fail
  refine (HC.out _ HB.out).mono ?_; rintro e wb ⟨rfl, hb2⟩
  have G0 : Hid (GB w.heap.size w (.slice none 0 0) [] wb) := Lib.hid ⟨World.ownsRow_nil _ _ _ _, below_step HB.out hb2, Nat.le_refl _⟩
  clear hb2 HB HC
  have HR0 := Lib.hid (cardRow_s G0.out (HLE0.out) [83, 73, 77, 80, 76, 69] [84] (show (⟨#[83, 73, 77, 80, 76, 69]⟩ : ByteArray) = bs [83, 73, 77, 80, 76, 69] from rfl) (show (⟨#[84]⟩ : ByteArray) = bs [84] from rfl) (by decide) (by decide))
  clear G0
  go_wp2_with fail
  refine HR0.out.mono ?_; rintro e wr0 ⟨v0, rfl, hG⟩
  have G1 := Lib.hid hG
  clear hG HR0
  have HR1 := Lib.hid (cardRow_s G1.out (HLE1.out) [66, 73, 84, 80, 73, 88] [49, 54] (show (⟨#[66, 73, 84, 80, 73, 88]⟩ : ByteArray) = bs [66, 73, 84, 80, 73, 88] from rfl) (show (⟨#[49, 54]⟩ : ByteArray) = bs [49, 54] from rfl) (by decide) (by decide))
  clear G1
  go_wp2_with fail
  refine HR1.out.mono ?_; rintro e wr1 ⟨v1, rfl, hG⟩
  have G2 := Lib.hid hG
  clear hG HR1
  have HR2 := Lib.hid (cardRow_s G2.out (HLE2.out) [78, 65, 88, 73, 83] [50] (show (⟨#[78, 65, 88, 73, 83]⟩ : ByteArray) = bs [78, 65, 88, 73, 83] from rfl) (show (⟨#[50]⟩ : ByteArray) = bs [50] from rfl) (by decide) (by decide))
  clear G2
  go_wp2_with fail
  refine HR2.out.mono ?_; rintro e wr2 ⟨v2, rfl, hG⟩
  have G3 := Lib.hid hG
  clear hG HR2
  have hq := HPi.out.below G3.out.2.1
  have k0 := hq.1
  have k1 := hq.2.1
  clear hq
  go_wp2_with fail
  refine (HDW.out _).mono ?_; rintro e wd3 ⟨d3, rfl, hds, hde, hbd⟩
  have GD3 := Lib.hid (G3.out.below hbd)
  have HE3 := Lib.hid hde.out
  clear hbd G3 hde hds k0 k1 HDW
  have HR3 := Lib.hid (cardRow_s GD3.out HLE3.out [78, 65, 88, 73, 83, 49] (Lib.decDigits V) (show (⟨#[78, 65, 88, 73, 83, 49]⟩ : ByteArray) = bs [78, 65, 88, 73, 83, 49] from rfl) HE3.out (by decide) (by have := HdW.out; omega))
  clear GD3 HE3
  go_wp2_with fail
  refine HR3.out.mono ?_; rintro e wr3 ⟨v3, rfl, hG⟩
  have G4 := Lib.hid hG
  clear hG HR3
  have hq := HPi.out.below G4.out.2.1
  have k0 := hq.1
  have k1 := hq.2.1
  clear hq
  go_wp2_with fail
  refine (HDH.out _).mono ?_; rintro e wd4 ⟨d4, rfl, hds, hde, hbd⟩
  have GD4 := Lib.hid (G4.out.below hbd)
  have HE4 := Lib.hid hde.out
  clear hbd G4 hde hds k0 k1 HDH
  have HR4 := Lib.hid (cardRow_s GD4.out HLE4.out [78, 65, 88, 73, 83, 50] (Lib.decDigits K) (show (⟨#[78, 65, 88, 73, 83, 50]⟩ : ByteArray) = bs [78, 65, 88, 73, 83, 50] from rfl) HE4.out (by decide) (by have := HdH.out; omega))
  clear GD4 HE4
  go_wp2_with fail
  refine HR4.out.mono ?_; rintro e wr4 ⟨v4, rfl, hG⟩
  have G5 := Lib.hid hG
  clear hG HR4
  have HR5 := Lib.hid (cardRow_s G5.out (HLE5.out) [66, 90, 69, 82, 79] [51, 50, 55, 54, 56] (show (⟨#[66, 90, 69, 82, 79]⟩ : ByteArray) = bs [66, 90, 69, 82, 79] from rfl) (show (⟨#[51, 50, 55, 54, 56]⟩ : ByteArray) = bs [51, 50, 55, 54, 56] from rfl) (by decide) (by decide))
  clear G5
  go_wp2_with fail
  refine HR5.out.mono ?_; rintro e wr5 ⟨v5, rfl, hG⟩
  have G6 := Lib.hid hG
  clear hG HR5
  have HRT := Lib.hid (fun k (hk : k < cs.length) => rows_take (W := V) (H := K) hk)
  have HAl := Lib.hid (fun k (hk : k ≤ cs.length) => show (allR (fixC V K ++ cs.take k)).length ≤ 20000 by
    rw [allR_len (fun c hc => by
      rcases List.mem_append.1 hc with hc | hc
      · exact fixC_short hV.2 hK.2 c hc
      · exact HSh.out c (List.mem_of_mem_take hc)), List.length_append, List.length_take]
    show 80 * (6 + _) ≤ _
    omega)
  have HSc := Lib.hid (fun k (hk : k < cs.length) => show (nmC cs k).length ≤ 1000 ∧ (vlC cs k).length ≤ 1000 by
    have hm : cs.getD k ([], []) ∈ cs := by
      rw [List.getD_eq_getElem?_getD, List.getElem?_eq_getElem hk]
      exact List.getElem_mem _
    have h := HSh.out _ hm
    unfold nmC vlC
    have h1 := h.1
    have h2 := h.2
    omega)
  clear HLE0 HLE1 HLE2 HLE3 HLE4 HLE5 HdW HdH
  go_wp2
  go_loopw [7, 8] (fun v i wr => ∃ k : Nat, k ≤ cs.length ∧ i = .int .i64 k ∧ Hid (GB w.heap.size w v (allR (fixC V K ++ cs.take k)) wr)) (fun _ i _ => cs.length - (intOf i).toNat)
  case atStart => exact ⟨0, Nat.zero_le _, rfl, Lib.hid (by rw [List.take_zero, List.append_nil, ← HF6.out]; exact G6.out)⟩
  case round =>
    clear G6 HF6
    obtain ⟨k, hk, rfl, hG⟩ := hrel
    by_cases hlt : k < cs.length
    · obtain ⟨bc, oc, rfl, _, _, _⟩ := HCr.out.at hlt
      have HKc : Hid (∀ W', Below w.heap.size w W' → W'.cell? ⟨bc, oc + k * 2, none⟩ = some (.string (bs (nmC cs k))) ∧ W'.cell? ⟨bc, oc + k * 2 + 1, none⟩ = some (.string (bs (vlC cs k)))) := Lib.hid (fun W' hb => by
        obtain ⟨b', o', e1, _, h, _⟩ := (HCr.out.below hb).at hlt
        obtain ⟨rfl, rfl⟩ : bc = b' ∧ oc = o' := by cases e1; exact ⟨rfl, rfl⟩
        exact h)
      have hsc := HSc.out k hlt
      have hal := HAl.out k hk
      have HRk := Lib.hid (cardRow_s (hG.out.below (Below.refl wr.heap.size wr).drew) (by omega) (nmC cs k) (vlC cs k) rfl rfl hsc.1 hsc.2)
      rw [← HRT.out k hlt] at HRk
      have HS0 := Lib.hid (HKc.out wr hG.out.2.1)
      have HS1 := Lib.hid (HKc.out wr.drew hG.out.2.1.drew)
      have HS3 := Lib.hid (fun w3 (hb : Below w.heap.size w w3) => HKc.out w3 hb)
      obtain ⟨c1, c2⟩ := HS0.out
      clear HKc hsc hal
      generalize bs (nmC cs k) = sn at *
      generalize bs (vlC cs k) = sv at *
      go_wp2
      go_region_held3 (fun w' => w'.cell? ⟨bc, oc + k * 2, none⟩ = some (.string sn) ∧ w'.cell? ⟨bc, oc + k * 2 + 1, none⟩ = some (.string sv))
        (first | (exact HS3.out _ hb3.2.1) | (exact HS0.out) | (exact HS1.out) | go_keep)
        (first | (go_at_call 28; with_reducible refine HRk.out.mono ?_; rintro e w3 ⟨v3, rfl, hb3⟩))
      all_goals
        have HG3 := Lib.hid hb3
        clear hb3 HRk HS0 HS1 HS3 c1 c2 hG
        go_wp2
        go_roundw
        case rel => exact ⟨k + 1, by omega, by go_num, HG3⟩
        case measure => simp [intOf]; omega
    · obtain rfl : k = cs.length := by omega
      have hE0 : allR (fixC V K ++ cs.take cs.length) = allR (fixC V K ++ cs) := by rw [List.take_length]
      have h0 := HAl.out cs.length (Nat.le_refl _)
      have hG0 := hG.out
      rw [hE0] at h0 hG0
      obtain ⟨m0, hm0⟩ : ∃ m, allR (fixC V K ++ cs) = m := ⟨_, rfl⟩
      rw [hm0] at h0 hG0
      have HM0 := Lib.hid hm0
      obtain ⟨m1, hm1⟩ : ∃ m, m0 ++ [69, 78, 68] = m := ⟨_, rfl⟩
      have HM1 := Lib.hid hm1
      have HH1 : Hid (m1.length = m0.length + 3) := Lib.hid (by rw [← hm1, List.length_append]; rfl)
      obtain ⟨aa, capp, rfl⟩ := hG0.form
      have hos := Lib.hid (fun o => World.ownsRow.alloc hG0.1 o)
      have hsz := hG0.2.1.size
      have HG0 := Lib.hid hG0
      clear hE0 hm0 hm1 hG0 hG HAl HSc HRT hlt
      go_wp2_with (first
        | (at_builtin; refine wpList_append_own_at _ rfl _ _ 27 rfl w.heap.size 5 i0 (.int .u8 0) 1 1 Tryz.underlying27 hi hz0 hz1 hz2 rfl (by decide) (.slice aa m0.length capp) m0.length (encB m0) rfl (hos.out _) ⟨wr.heap.size, 0, none⟩ 3 3 [.int .u8 69, .int .u8 78, .int .u8 68] rfl rfl (newsB _ _ _) (by rw [encEnd]; exact encB_cells _) ?c3 ?c4 ?c5 ?_)
        | fail)
      case c3 => unfold maxLen; omega
      case c4 => omega
      case c5 => simp; omega
      intro v1 w3 hown hgrow _ _
      rw [encEnd] at hown
      have R1 := HG0.out.step (m := [69, 78, 68]) rfl hown hgrow
      rw [HM1.out] at R1
      obtain ⟨a1, cap1, rfl⟩ := R1.form
      have G1 := Lib.hid R1
      have HBl := Lib.hid (fun W' => blocks_any m1.length (by have := HH1.out; omega) W')
      have HPd := Lib.hid (padded_sp w.heap.size (blk m1.length) (blk m1.length : Nat) rfl m1 (.slice a1 m1.length cap1) w3 G1.out.start (by have := HH1.out; unfold blk; omega) (by have := HH1.out; omega))
      have HHd : Hid (padR m1 (blk m1.length) 32 = hdL V K cs) := Lib.hid (by unfold hdL; rw [HM0.out, HM1.out])
      rw [HHd.out] at HPd
      clear hown hgrow hos R1 HG0 hsz
      generalize (blk m1.length : Nat) = bl at *
      go_wp2_with fail
      refine (HBl.out _).mono ?_; rintro e w4 ⟨rfl, rfl⟩
      go_wp2_with fail
      refine HPd.out.mono ?_; rintro e w5 ⟨v5, rfl, hG5⟩
      have G5 := Lib.hid (G1.out.trans hG5)
      clear hG5 G1 HPd HBl HHd HM0 HM1 h0 HH1
      have HS : Hid (∀ W', Below w.heap.size w W' → W'.cell? ⟨b, o, none⟩ = some (.int .i64 V) ∧ W'.cell? ⟨b, o + 1, none⟩ = some (.int .i64 K) ∧ W'.cell? ⟨b, o + 2, none⟩ = some (.slice a n cap)) := Lib.hid (fun W' hb => by
        have hq := HPi.out.below hb
        exact ⟨hq.1, hq.2.1, hq.2.2.1⟩)
      obtain ⟨k0, k1, k2⟩ := HS.out w5 G5.out.2.1
      go_wp2
      have HFL : Hid (fileL V K f cs = padR (hdL V K cs ++ datD V K f K) (blk (hdL V K cs ++ datD V K f K).length) 0) := Lib.hid rfl
      generalize hdL V K cs = hd at *
      clear k0 k1 k2 hk
      go_loopw [7, 9] (fun v y wr => ∃ k : Nat, k ≤ K ∧ y = .int .i64 ((K : Int) - (k : Int)) ∧ Hid (GB w.heap.size w v (hd ++ datD V K f k) wr)) (fun _ y _ => (intOf y).toNat)
      case atStart => exact ⟨0, Nat.zero_le _, by simp, Lib.hid (by rw [show datD V K f 0 = [] from rfl, List.append_nil]; exact G5.out)⟩
      case round =>
        clear G5
        obtain ⟨k, hk, rfl, hG⟩ := hrel
        obtain ⟨k0, k1, k2⟩ := HS.out wr hG.out.2.1
        by_cases hkt : k < K
        · have dy : decide ((0 : Int) < (K : Int) - (k : Int)) = true := by simp; omega
          obtain ⟨Y, hY⟩ : ∃ Y : Nat, K - 1 - k = Y := ⟨_, rfl⟩
          have hYi : (K : Int) - (k : Int) - 1 = (Y : Int) := by omega
          have HYV := Lib.hid (show (Y + 1) * V ≤ K * V from Nat.mul_le_mul_right V (by omega))
          have hJ : (Y : Int) * (V : Int) = ((Y * V : Nat) : Int) := by push_cast; rfl
          have HDk : Hid (datD V K f (k + 1) = datD V K f k ++ rowD V f Y V) := Lib.hid (by rw [datD, hY])
          have HRs := Lib.hid (fun j => show rowD V f Y (j + 1) = rowD V f Y j ++ b2 (f (Y * V + j)) from rfl)
          have HJn : Hid (Y * V + V ≤ n) := Lib.hid (by have := HYV.out; rw [Nat.add_mul, Nat.one_mul, ← HNN.out] at this; exact this)
          have HLn := Lib.hid (fun j (hj : j ≤ V) => show (hd ++ datD V K f k ++ rowD V f Y j).length ≤ 300000 by
            have h1 := Nat.mul_le_mul_right V hk
            rw [← HNN.out] at h1
            rw [List.length_append, List.length_append, datD_len, rowD_len]
            have := HHl.out
            omega)
          clear HYV hY
          generalize Y * V = J at *
          go_wp2
          go_loopw [7, 10] (fun v x wr => ∃ j : Nat, j ≤ V ∧ x = .int .i64 j ∧ Hid (GB w.heap.size w v (hd ++ datD V K f k ++ rowD V f Y j) wr)) (fun _ x _ => V - (intOf x).toNat)
          case atStart => exact ⟨0, Nat.zero_le _, rfl, Lib.hid (by rw [show rowD V f Y 0 = [] from rfl, List.append_nil]; exact hG.out)⟩
          case round =>
            clear hG k0 k1 k2
            obtain ⟨j, hj, rfl, hG⟩ := hrel
            obtain ⟨k0, k1, k2⟩ := HS.out wr hG.out.2.1
            by_cases hjt : j < V
            · have hJn := HJn.out
              have hkn : J + j < n := by omega
              obtain ⟨ba, oa, rfl, hbal, ck⟩ := HA.out (J + j) hkn
              have ckr : wr.cell? ⟨ba, oa + (J + j), none⟩ = some (.int .i64 (f (J + j))) := by rw [hG.out.2.1.cell (p := ⟨ba, oa + (J + j), none⟩) hbal]; exact ck
              have hfk := HCn.out (J + j) hkn
              have HR := Lib.hid (HRs.out j)
              have hml := HLn.out j hj
              have hidx : (J : Int) + (j : Int) = ((J + j : Nat) : Int) := by push_cast; rfl
              clear ck
              generalize J + j = kx at *
              generalize f kx = fx at *
              obtain ⟨pn, hpn⟩ : ∃ pn : Nat, (fx + 32768) % 65536 = (pn : Int) := ⟨((fx + 32768) % 65536).toNat, by omega⟩
              have HE := Lib.hid (enc_b2 fx hpn)
              have hp6 : pn < 65536 := by omega
              obtain ⟨mm, hmm⟩ : ∃ m, hd ++ datD V K f k ++ rowD V f Y j = m := ⟨_, rfl⟩
              have HMM : Hid (hd ++ datD V K f k ++ rowD V f Y (j + 1) = mm ++ b2 fx) := Lib.hid (by rw [HR.out, ← List.append_assoc, hmm])
              have hGm := hG.out
              rw [hmm] at hGm hml
              obtain ⟨aa, capp, rfl⟩ := hGm.form
              have HG := Lib.hid hGm
              clear hmm hGm hG HR hJn
              have ew0 : IntKind.i64.wrap (J : Int) = (J : Int) := IntWalk.i64_in _ (by omega)
              have ew1 : IntKind.i64.wrap ((Y : Int) * (V : Int)) = (J : Int) := by rw [hJ]; exact ew0
              have ew3 : IntKind.i64.wrap (kx : Int) = (kx : Int) := IntWalk.i64_in _ (by omega)
              have ew2 : IntKind.i64.wrap ((J : Int) + (j : Int)) = (kx : Int) := by rw [hidx]; exact ew3
              have ewy : IntKind.i64.wrap ((K : Int) - (k : Int) - 1) = (Y : Int) := by rw [hYi]; exact IntWalk.i64_in _ (by omega)
              have ewf : IntKind.i64.wrap (fx + 32768) = fx + 32768 := IntWalk.i64_in _ (by omega)
              have ewt : (fx + 32768).tmod 65536 = (pn : Int) := by rw [Int.tmod_eq_emod_of_nonneg (by omega)]; exact hpn
              have ewp : IntKind.i64.wrap (pn : Int) = (pn : Int) := IntWalk.i64_in _ (by omega)
              have r0 : (0 : Int) ≤ (kx : Int) := by omega
              have r1 : (kx : Int) < (n : Int) := by omega
              have r4 : ((kx : Int)).toNat = kx := by omega
              go_wp2
              go_quiet (fail)
              have HG1 := Lib.hid (HG.out.below (below_drewN (Below.refl wr.heap.size wr) nq))
              clear HG k0 k1 k2 ckr ew0 ew1 ew2 ew3 ewy ewf ewt r0 r1 r4 hpn hidx
              generalize wr.drewN nq = wd at *
              have hos := Lib.hid (fun o => World.ownsRow.alloc HG1.out.1 o)
              have hsz := HG1.out.2.1.size
              obtain ⟨ph, hph⟩ : ∃ ph : Nat, pn / 256 = ph := ⟨_, rfl⟩
              obtain ⟨pl, hpl⟩ : ∃ pl : Nat, pn % 256 = pl := ⟨_, rfl⟩
              have e1 : (pn : Int).tdiv 256 = (ph : Int) := by rw [Int.tdiv_eq_ediv_of_nonneg (by omega)]; omega
              have e2 : (pn : Int).tmod 256 = (pl : Int) := by rw [Int.tmod_eq_emod_of_nonneg (by omega)]; omega
              have e3 : (pn : Int) / 256 = (ph : Int) := by omega
              have e4 : (pn : Int) % 256 = (pl : Int) := by omega
              have bb1 : ph < 256 := by omega
              have bb2 : pl < 256 := by omega
              rw [hph, hpl] at HE
              clear hph hpl
              go_wp2_with (first
                | (at_builtin; refine wpList_append_own_at _ rfl _ _ 27 rfl w.heap.size 5 i0 (.int .u8 0) 1 1 Tryz.underlying27 hi hz0 hz1 hz2 rfl (by decide) (.slice aa mm.length capp) mm.length (encB mm) rfl (hos.out _) ⟨wd.heap.size, 0, none⟩ 2 2 [.int .u8 (ph : Int), .int .u8 (pl : Int)] rfl rfl (newsB _ _ _) (by rw [HE.out]; exact encB_cells _) ?c3 ?c4 ?c5 ?_)
                | fail)
              case c3 => unfold maxLen; omega
              case c4 => omega
              case c5 => simp; omega
              intro v6 w6 hown hgrow _ _
              rw [HE.out] at hown
              have R6 := Lib.hid (HG1.out.step (m := b2 fx) (b2_len fx) hown hgrow)
              clear hown hgrow hos HG1
              go_wp2
              go_roundw
              case rel => exact ⟨j + 1, by omega, by go_num, Lib.hid (by rw [HMM.out]; exact R6.out)⟩
              case measure => simp [intOf]; omega
            · obtain rfl : j = V := by omega
              go_wp2
              go_roundw
              case rel => exact ⟨k + 1, by omega, by go_num, Lib.hid (by rw [HDk.out, ← List.append_assoc]; exact hG.out)⟩
              case measure => simp [intOf]; omega
        · obtain rfl : k = K := by omega
          obtain ⟨mm, hmm⟩ : ∃ m, hd ++ datD V k f k = m := ⟨_, rfl⟩
          have hml : mm.length ≤ 300000 := by
            rw [← hmm, List.length_append, datD_len, ← HNN.out]
            have := HHl.out
            omega
          have hGm := hG.out
          rw [hmm] at hGm HFL
          obtain ⟨aa, capp, rfl⟩ := hGm.form
          have HG := Lib.hid hGm
          have dy : decide ((0 : Int) < (k : Int) - (k : Int)) = false := by simp
          have HBl := Lib.hid (fun W' => blocks_any mm.length (by omega) W')
          have HPd := Lib.hid (padded_no w.heap.size (blk mm.length) (blk mm.length : Nat) rfl mm (.slice aa mm.length capp) wr hGm.start (by unfold blk; omega) (by omega))
          rw [← HFL.out] at HPd
          clear hmm hGm hG
          generalize (blk mm.length : Nat) = bl at *
          go_wp2_with fail
          refine (HBl.out _).mono ?_; rintro e w4 ⟨rfl, rfl⟩
          go_wp2_with fail
          refine HPd.out.mono ?_; rintro e w5 ⟨v5, rfl, hG5⟩
          have G5 := Lib.hid (HG.out.trans hG5)
          clear hG5 HPd HBl HG
          go_wp2
          refine bodyPost_ret (v := .tuple #[v5, .int .i64 0]) ?_ rfl ?_
          · simp [results, Tryz.results8, go_sem]
          · exact ⟨v5, rfl, G5.out⟩
end Go.Proofs.YtjcmpkkflboaoaaGreatDoor
