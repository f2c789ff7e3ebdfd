/- The bodies of the functions in the abstract machine. -/
import Derived.Test.YtcffcnipmgkjfaaGreatSh0
import Derived.Test.YtcffcnipmgkjfaaGreatSh1
