/- The bodies of the functions in the abstract machine. -/
import Derived.Test.YtfdnlokpadbjnaaSh0
import Derived.Test.YtfdnlokpadbjnaaSh1
import Derived.Test.YtfdnlokpadbjnaaSh2
import Derived.Test.YtfdnlokpadbjnaaSh3
