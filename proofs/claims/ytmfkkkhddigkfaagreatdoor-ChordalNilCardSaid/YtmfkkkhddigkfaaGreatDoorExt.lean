/- SMALL RULES FOR THE WALK: worlds that grow. No condition. -/
import Derived.Test.YtmfkkkhddigkfaaGreatDoorGc
namespace Go.Proofs.YtmfkkkhddigkfaaGreatDoor
open Go Go.RowKit
theorem ext_self1 (a : World) (o : Obj) : Ext a (a.alloc o) := (Ext.refl a).alloc o
theorem ext_self2 (a : World) (o p : Obj) : Ext a ((a.alloc o).alloc p) := (ext_self1 a o).alloc p
theorem ext_self3 (a : World) (o p q : Obj) : Ext a (((a.alloc o).alloc p).alloc q) := (ext_self2 a o p).alloc q
theorem ext_self4 (a : World) (o p q r : Obj) : Ext a ((((a.alloc o).alloc p).alloc q).alloc r) := (ext_self3 a o p q).alloc r
theorem ext_drew1 (a : World) : Ext a a.drew := (Ext.refl a).drew
theorem ext_alloc2 {a b : World} (o p : Obj) (h : Ext a b) : Ext a ((b.alloc o).alloc p) := (h.alloc o).alloc p
theorem ext_alloc3 {a b : World} (o p q : Obj) (h : Ext a b) : Ext a (((b.alloc o).alloc p).alloc q) := ((h.alloc o).alloc p).alloc q
theorem ext_alloc4 {a b : World} (o p q r : Obj) (h : Ext a b) : Ext a ((((b.alloc o).alloc p).alloc q).alloc r) := (((h.alloc o).alloc p).alloc q).alloc r
attribute [go_sem] ext_self1 ext_self2 ext_self3 ext_self4 ext_drew1 ext_alloc2 ext_alloc3 ext_alloc4
end Go.Proofs.YtmfkkkhddigkfaaGreatDoor
