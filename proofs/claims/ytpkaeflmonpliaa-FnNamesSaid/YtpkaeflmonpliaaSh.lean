/- The bodies of the functions in the abstract machine. -/
import Derived.Test.YtpkaeflmonpliaaSh0
import Derived.Test.YtpkaeflmonpliaaSh1
