/- The runes of a string, as the model decodes them. -/
import Derived.Test.YtpkifhmnibepiaaDoorScanP
import Derived.Laws.IdiomStrings
namespace Go.Proofs.YtpkifhmnibepiaaDoor
open Go.RowKit

def rdec (s : ByteArray) : Nat → Nat → List Nat
  | 0, _ => []
  | b + 1, i => if i < s.size then (Utf8.decode s i).1 :: rdec s b (i + (Utf8.decode s i).2) else []
theorem runesFrom_eq (s : ByteArray) : ∀ b i acc, (Conv.runesFrom s b i acc).toList = acc.toList ++ (rdec s b i).map (fun r : Nat => Value.int .i32 (r : Int))
  | 0, _, acc => by simp [Conv.runesFrom, rdec]
  | b + 1, i, acc => by
    unfold Conv.runesFrom rdec
    split
    · simp only
      rw [runesFrom_eq s b]
      simp
    · simp
def runes (s : ByteArray) : List Nat := rdec s s.size 0
def runeL (s : ByteArray) (j : Nat) : Int := ((runes s).getD j 0 : Nat)
theorem rdec_length (s : ByteArray) : ∀ b i, (rdec s b i).length ≤ b
  | 0, _ => Nat.le_refl _
  | b + 1, i => by
    have := rdec_length s b (i + (Utf8.decode s i).2)
    unfold rdec; split
    · simp only [List.length_cons]; omega
    · simp
theorem runes_length (s : ByteArray) : (runes s).length ≤ s.size := rdec_length s _ _
/-- '[]rune(s)'. -/
theorem conv_runes (s : ByteArray) (hs : s.size ≤ 1000000) (W : World) : ∃ (cap : Nat) (X : Array Value), (convert 9 104 (.string s)).run Tryd.prog W = .ok (.slice (some ⟨W.heap.size, 0, none⟩) (runes s).length cap) (W.drew.alloc (.cells X 21)) ∧ ∀ j, j < (runes s).length → X[j]? = some (.int .i32 (runeL s j)) := by
  have e := runesFrom_eq s s.size 0 #[]
  have hz : (Conv.runesFrom s s.size 0 #[]).size = (runes s).length := by rw [← Array.length_toList, e]; simp [runes]
  have hl := runes_length s
  have h := run_runes_of_string (P := Tryd.prog) W 9 104 21 s Tryd.underlying9 Tryd.underlying104 Tryd.underlying21 (by rw [hz]; omega)
  rw [hz] at h
  refine ⟨_, _, h, fun j hj => ?_⟩
  rw [Array.getElem?_append_left (by rw [hz]; exact hj), ← Array.getElem?_toList, e]
  have hj' : j < (rdec s s.size 0).length := hj
  simp [runeL, runes, hj', List.getD_eq_getElem?_getD]
end Go.Proofs.YtpkifhmnibepiaaDoor
