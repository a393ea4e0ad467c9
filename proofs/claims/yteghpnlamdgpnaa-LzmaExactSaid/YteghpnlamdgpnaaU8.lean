/- What the run-time knows of bytes. -/
import Derived.Test.YteghpnlamdgpnaaChecked
namespace Go.Proofs.Yteghpnlamdgpnaa
theorem Try.info_u8 : (Try.prog.info? 5).map (fun i => (i.zero, i.size, i.bytes)) = some (some (.int .u8 0), 1, 1) := by kernel_rfl
end Go.Proofs.Yteghpnlamdgpnaa
