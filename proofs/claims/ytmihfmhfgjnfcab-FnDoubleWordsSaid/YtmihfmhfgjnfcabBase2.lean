/- General words of this session, a second part. Nothing here speaks of the program. -/
import Derived.Test.YtmihfmhfgjnfcabBase
namespace Go.Proofs.Ytmihfmhfgjnfcab
open Go.RowKit Go.Proofs.YtmihfmhfgjnfcabW.PrintWords Go.Proofs.YtmihfmhfgjnfcabW.PrintLast Go.Proofs.YtmihfmhfgjnfcabW.PrintMore
set_option linter.unusedVariables false
theorem drop_bytes (s : ByteArray) (k : Nat) (h : k < s.size) : (bytesOf s).drop k = bt s k :: (bytesOf s).drop (k + 1) := by
  have hl : k < (bytesOf s).length := by simpa [bytesOf] using h
  rw [List.drop_eq_getElem_cons hl]
  congr 1
  unfold bt
  rw [dif_pos (by simpa using h)]
  simp [bytesOf]
  rfl
theorem drop_bytes_end (s : ByteArray) (k : Nat) (h : s.size ≤ k) : (bytesOf s).drop k = [] := List.drop_eq_nil_of_le (by simpa [bytesOf] using h)
end Go.Proofs.Ytmihfmhfgjnfcab

