/- Two contracts together. -/
import Derived.Test.YtggkkgkjhfgipaaZHandAlloc
import Derived.Test.YtggkkgkjhfgipaaZHandSameShape
