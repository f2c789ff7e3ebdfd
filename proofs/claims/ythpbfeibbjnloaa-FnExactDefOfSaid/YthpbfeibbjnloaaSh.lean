/- The bodies of the functions in the abstract machine. -/
import Derived.Test.YthpbfeibbjnloaaSh0
import Derived.Test.YthpbfeibbjnloaaSh1
import Derived.Test.YthpbfeibbjnloaaSh2
