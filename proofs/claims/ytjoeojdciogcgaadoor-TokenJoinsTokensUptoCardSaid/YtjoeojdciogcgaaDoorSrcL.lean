/- The texts on which those of the reference lean. Nothing is claimed here. -/
import Derived.Test.YtjoeojdciogcgaaDoorTokB
