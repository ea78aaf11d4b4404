/- PlacesFrom, by both programs. -/
import Derived.Test.YtpnhfdppndcpnaaPlaces
namespace Go.Proofs.Ytpnhfdppndcpnaa
open Go.RowKit
set_option maxRecDepth 100000
set_option linter.unusedVariables false

def placesFrom (r c : Int) : List Int × Int := if tableOk r c then (placesL r c, 0) else ([], 2)
theorem placesFrom_len (r c : Int) : (placesFrom r c).1.length ≤ 1600 := by
  unfold placesFrom
  split
  · rename_i h
    obtain ⟨h1, h2, _⟩ := tableOk_true h
    simp only [placesL, placesTo_length]
    have := Nat.mul_le_mul (show c.toNat ≤ 40 by omega) (show r.toNat ≤ 40 by omega)
    omega
  · simp

theorem placesFrom_no {r c : Int} (h : tableOk r c = false) : placesFrom r c = ([], 2) := by simp [placesFrom, h]
theorem placesFrom_yes {r c : Int} (h : tableOk r c = true) : placesFrom r c = (placesL r c, 0) := by simp [placesFrom, h]

end Go.Proofs.Ytpnhfdppndcpnaa
