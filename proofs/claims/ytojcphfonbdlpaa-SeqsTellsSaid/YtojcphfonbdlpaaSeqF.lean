/- Of lists that are not as long as one another there is no sequence and no run: the walks of seqs.Of and seqs.Runs there. No condition. -/
import Derived.Test.YtojcphfonbdlpaaSeqE
namespace Go.Proofs.Ytojcphfonbdlpaa
open Go.RowKit

set_option maxRecDepth 100000 in
set_option maxHeartbeats 1000000 in
theorem of_uneven (A A2 : Option Addr) (n c n2 c2 : Nat) (base : Int) (hne : n ≠ n2) (w : World) :
    Calls Try.prog 10 #[.slice A n c, .slice A2 n2 c2, .int .i64 base] w fun e w' => e = .returned (.slice none 0 0) ∧ w = w' := by
  have hd : ((n : Int) != (n2 : Int)) = true := by simp; omega
  go_enter Try.func10, Try.ntmps10
  go_wp2
  go_ret
  exact ⟨rfl, rfl⟩

set_option maxHeartbeats 1000000 in
theorem cuts_uneven (A A2 : Option Addr) (n c n2 c2 : Nat) (hne : n ≠ n2) (w : World) :
    Calls Try.prog 14 #[.slice A n c, .slice A2 n2 c2] w fun e w' => e = .returned (.slice none 0 0) ∧ w = w' := by
  have hd : ((n : Int) != (n2 : Int)) = true := by simp; omega
  go_enter Try.func14, Try.ntmps14
  go_wp2
  go_ret
  exact ⟨rfl, rfl⟩

end Go.Proofs.Ytojcphfonbdlpaa
