/- The bodies of the functions in the abstract machine. -/
import Derived.Test.YtpiicpcofjhakaaSh0
import Derived.Test.YtpiicpcofjhakaaSh1
