/- The bodies of the functions in the abstract machine. -/
import Derived.Test.YtcjbaidcmidijaaSh0
import Derived.Test.YtcjbaidcmidijaaSh1
import Derived.Test.YtcjbaidcmidijaaSh2
import Derived.Test.YtcjbaidcmidijaaSh3
