import Derived.Test.YtlkabncoaijepaaDoorPHandxTexts
namespace Go.Proofs.YtlkabncoaijepaaDoor.Pure
/-- The walk of WordTexts asks nothing more. -/
theorem WordTexts : Go.Proofs.YtlkabncoaijepaaDoor.PHand.billhooklaw01_WordTexts.Pure := trivial
end Go.Proofs.YtlkabncoaijepaaDoor.Pure
