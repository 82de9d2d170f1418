/- The library contracts of strings at this program. -/
import Derived.Test.YtlfjoaipbpendaaGreatDoorSs
import Derived.Test.YtlfjoaipbpendaaGreatDoorShelf
import Derived.Lib.AppendIntMem
import Derived.Lib.ConvBytes
import Derived.Lib.LaidTab
import Derived.Lib.AtoiErrMem
import Derived.KernelRfl
namespace Go.Proofs.YtlfjoaipbpendaaGreatDoor
open Go Go.Bur Go.RowKit
set_option linter.unusedVariables false
theorem tabIs {w : World} (h : gTab w) : Lib.TabIs Tryz.prog w "internal/strconv.uint64pow10" .u64 Lib.pow10Tab := by
  have e : Tryz.prog.globalNamed "internal/strconv.uint64pow10" = some 0 := by kernel_rfl
  unfold Lib.TabIs World.var?
  rw [e]
  exact h
theorem fmtRaw : FmtRaw Tryz.prog 71 := fun n w h0 h1 hg => Calls.mono (Go.Proofs.Tryz.strconv_FormatInt_10 n h0 h1 w (tabIs (hg gTab (by simp [glob])))) fun e w' ⟨he, k, os, hw⟩ => ⟨he, by rw [hw]; exact Lib.below_grow _ w (Nat.le_refl _) k os⟩
theorem cutRaw : CutRaw Tryz.prog 78 := fun s p w hs hg => by
  obtain ⟨m, hm⟩ := hg gMax (by simp [glob])
  exact Calls.mono (Go.Proofs.Tryz.strings_Cut s p m w hs hm) fun e w' ⟨he, n, hw⟩ => ⟨he, by rw [hw]; exact ⟨rfl, rfl, rfl, Nat.le_refl _, fun _ _ => rfl⟩⟩
theorem joinRaw : JoinRaw Tryz.prog 70 := ⟨fun a c p w => Go.Proofs.Tryz.strings_Join_none a c p w, fun bk o c xs p w h1 h2 h3 h4 h5 => Go.Proofs.Tryz.strings_Join bk o c xs p w h1 h2 h3 h4 h5⟩
theorem parRaw : ParRaw Tryz.prog 103 := fun s w hs hg => by
  unfold parN
  cases h : Lib.parseIntB 64 s.data.toList with
  | ok v =>
    refine Calls.mono (Go.Proofs.Tryz.strconv_ParseInt_10_at64_ok s (by omega) v h w) fun e w' ⟨he, hw⟩ => ⟨_, he, .inl ⟨rfl, rfl⟩, ?_⟩
    rcases hw with rfl | ⟨t, rfl⟩
    · exact Below.refl _ _
    · exact Lib.bytesWorld_below _ _ _
  | «syntax» =>
    obtain ⟨t, p, hc⟩ := hg (gErr 2) (by simp [glob])
    exact Calls.mono (Go.Proofs.Tryz.strconv_ParseInt_10_at64_syntax s hs h _ w hc (.inr ⟨t, p, rfl⟩)) fun e w' ⟨N, he, _, _, hb⟩ => ⟨_, he, .inr ⟨rfl, _, _, rfl⟩, hb⟩
  | range =>
    obtain ⟨t, p, hc⟩ := hg (gErr 3) (by simp [glob])
    exact Calls.mono (Go.Proofs.Tryz.strconv_ParseInt_10_at64_range s hs h _ w hc (.inr ⟨t, p, rfl⟩)) fun e w' ⟨N, he, _, _, hb⟩ => ⟨_, he, .inr ⟨rfl, _, _, rfl⟩, hb⟩
end Go.Proofs.YtlfjoaipbpendaaGreatDoor
