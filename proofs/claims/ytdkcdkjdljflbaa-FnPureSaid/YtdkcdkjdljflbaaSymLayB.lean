/- The tools of a seat, and the texts of numbers and of joined strings. -/
import Derived.Test.YtdkcdkjdljflbaaSymX
import Derived.Test.YtdkcdkjdljflbaaSymItoa
