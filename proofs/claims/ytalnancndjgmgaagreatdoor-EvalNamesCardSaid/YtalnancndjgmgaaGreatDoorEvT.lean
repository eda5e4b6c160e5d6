/- Eval: no types of its own. -/
import Derived.Test.YtalnancndjgmgaaGreatDoorRowG
