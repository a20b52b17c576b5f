/- job.Set. -/
import Derived.Test.YtolckkckheiceaaGreatAdmit
import Derived.Test.YtolckkckheiceaaGreatReadP
namespace Go.Proofs.YtolckkckheiceaaGreat
open Go.RowKit

def setS (tab : List ByteArray) (ws : List WorkerS) (s : ByteArray) : Nat := if (needS tab s).2.2 ≠ 0 then 0 else admitS (needS tab s).1 ws
theorem needS_len (tab : List ByteArray) (s : ByteArray) : (needS tab s).1.length ≤ 31 := by
  unfold needS
  split
  · simp
  · dsimp only
    split
    · simp
    · rename_i h0 h1
      generalize anyP _ _ _ _ = r at h1 ⊢
      have hc : (readR r).2.1 = 0 := by simpa using h1
      cases r with
      | bad a e => simp [readR]
      | ok ws out =>
        cases ws with
        | cons x ws => simp [readR]
        | nil =>
          obtain ⟨_, _, h, _⟩ := check_made (show checkN out = 0 from hc)
          exact h
end Go.Proofs.YtolckkckheiceaaGreat
