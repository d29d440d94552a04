/- awake answers true, whatever lies in memory, and leaves what was there as it was. No condition. -/
import Derived.Test.YtkihpcjfhilgcaaGreatZ50
namespace Go.Abs
open Go.Proofs
theorem true_calls {S : Sums} {L d : Nat} {f : FuncId} (hs : SumSound Tryz.prog S) {o : Option (AV × H)} (ho : callF Tryz.prog seatX S L d (.fn f) [] H0 = o) {h1 : H} (h0 : o = some (.bool true, h1)) {ι : Io} {h : H} {w : World} (r : R ι h w) :
    Calls Tryz.prog f #[] w (Ret ι h w (.bool true) h) := by
  subst h0
  rw [callF_eq] at ho
  have := (callA_sound seatX_sound hs follows_mixed d).fn f [] H0 _ _ ho ι0 w [] (R.empty w) ⟨rfl, fun i a u h1 _ => by simp at h1⟩
  exact this.mono fun e w' ret => Ret.pure r rfl ret
theorem awake_calls {ι : Io} {h : H} {w : World} (r : R ι h w) : Calls Tryz.prog 7 #[] w (Ret ι h w (.bool true) h) := by
  obtain ⟨h1, hc⟩ := isTrue_spec awake_run
  exact true_calls S2_sound rfl hc r
end Go.Abs
