/- The plain law of the reference of conf: its sets and counts are the program's. -/
import Derived.Test.YtbnndbdnejfehaaGreatDoorPlainConf
namespace Go.Proofs.YtbnndbdnejfehaaGreatDoor
open Go

section
variable (jov jox jol joe jok jnv jnx jnl jne jnk : Int) (jt : Bool) (fo : FitC jov jox jol) (fn : FitC jnv jnx jnl) (hm : mayJ jov jox jol joe jok jnv jnx jnl jne jnk jt = true)
include fo fn hm
end

end Go.Proofs.YtbnndbdnejfehaaGreatDoor
