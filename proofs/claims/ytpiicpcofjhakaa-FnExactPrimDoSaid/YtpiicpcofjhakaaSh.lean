/- The bodies of the functions in the abstract machine. -/
import Derived.Test.YtpiicpcofjhakaaSh0
import Derived.Test.YtpiicpcofjhakaaSh1
import Derived.Test.YtpiicpcofjhakaaSh2
import Derived.Test.YtpiicpcofjhakaaSh3
import Derived.Test.YtpiicpcofjhakaaSh4
