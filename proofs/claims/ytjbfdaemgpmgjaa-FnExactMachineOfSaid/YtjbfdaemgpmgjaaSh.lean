/- The bodies of the functions in the abstract machine. -/
import Derived.Test.YtjbfdaemgpmgjaaSh0
import Derived.Test.YtjbfdaemgpmgjaaSh1
import Derived.Test.YtjbfdaemgpmgjaaSh2
