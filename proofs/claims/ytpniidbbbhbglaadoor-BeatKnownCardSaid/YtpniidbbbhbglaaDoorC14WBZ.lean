/- Walks of the functions of this seat: what each Go function comes to, as a Lean function, and the proof. All of group WB. Under no conditions. -/
import Derived.Test.YtpniidbbbhbglaaDoorC14WB3
