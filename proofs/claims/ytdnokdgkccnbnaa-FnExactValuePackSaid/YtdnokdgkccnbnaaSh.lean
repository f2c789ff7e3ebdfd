/- The bodies of the functions in the abstract machine. -/
import Derived.Test.YtdnokdgkccnbnaaSh0
