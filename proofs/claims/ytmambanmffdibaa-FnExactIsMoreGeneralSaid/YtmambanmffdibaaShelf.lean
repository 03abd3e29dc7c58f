/- What the printed texts lean on, by hand: the patterns' walks. -/
import Derived.Test.YtmambanmffdibaaPatMore
