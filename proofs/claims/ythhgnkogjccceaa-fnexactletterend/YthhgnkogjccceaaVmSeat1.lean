/-
  The first seat: the machine over its program.
-/
import Derived.Test.YthhgnkogjccceaaRows
import Derived.Test.YthhgnkogjccceaaVmLaw
namespace Go.Proofs.Ythhgnkogjccceaa
open Go.Vm

def ks : List (TypeId × Kind) := [(43, .term), (50, .term), (71, .str)]

noncomputable def cfg : Cfg where
  tb := tbOf Try.prog ks
  hm := fun _ _ => .inline
  sh := fun _ => .raw
  eqT := eqOf Try.prog []
  lh := fun _ _ => ⟨⟨[], [], []⟩, ⟨[], [], []⟩, [], [], []⟩
  ext := fun _ => none

theorem progOK : ProgOK Try.prog cfg where
  wide := by kernel_rfl
  tab := tabOK_of (ks := ks) (es := []) rfl rfl
  nm := names_of (by kernel_rfl)
  ext := fun f g args objs r h => by cases h

theorem ksOk' : ksOk Try.prog ks ks = true := by kernel_rfl

end Go.Proofs.Ythhgnkogjccceaa
