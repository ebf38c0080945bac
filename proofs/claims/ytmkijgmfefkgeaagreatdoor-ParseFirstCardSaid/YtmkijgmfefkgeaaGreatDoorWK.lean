/- The text by which a layer is asked whether it does anything. No condition. -/
import Derived.Test.YtmkijgmfefkgeaaGreatDoorE8
import Derived.KernelRfl
set_option autoImplicit false
namespace Go.Proofs.YtmkijgmfefkgeaaGreatDoor
open Go
abbrev wkT : ByteArray := ⟨#[112, 97, 99, 107, 97, 103, 101, 32, 97, 10, 102, 117, 110, 99, 32, 102, 40, 120, 32, 105, 110, 116, 41, 32, 105, 110, 116, 32, 123, 32, 114, 101, 116, 117, 114, 110, 32, 120, 32, 43, 32, 49, 32, 125, 10]⟩
theorem wk_spot : (txtS wkT 10250).2 = (0, 0) := by kernel_rfl
theorem wk_len : (txtS wkT 10250).1.length = 10 := by kernel_rfl
theorem wk_bin : ((txtS wkT 10250).1[7]?).map (·.1.kind) = some 27 := by kernel_rfl
theorem wk_kept : kept ⟨#[105, 102]⟩ = true := by kernel_rfl
end Go.Proofs.YtmkijgmfefkgeaaGreatDoor
