import Derived.Test.YtpnaccnofbkhiaaGreatDoorVmQ
namespace Go.Vm
set_option autoImplicit false
end Go.Vm
namespace Go.Vm
end Go.Vm
